/- Contracts: the numbers in a text of a term. -/
import Derived.Test.YtlcchafcgidpeaaGreatDoorRuleT
import Derived.Test.YtlcchafcgidpeaaGreatDoorSigY
import Derived.Deep.LoopGhost
import Derived.WideShapes
import Derived.Laws.Strings
namespace Go.Proofs.YtlcchafcgidpeaaGreatDoor
open Go.RowKit
set_option linter.unusedVariables false
set_option linter.unusedSimpArgs false

namespace Pl
theorem numsS_fuel : ∀ (k k' : Nat) (l acc : List _), l.length ≤ k → l.length ≤ k' → numsS k l acc = numsS k' l acc
  | 0, 0, l, acc, _, _ => rfl
  | 0, k' + 1, [], acc, _, _ => rfl
  | 0, k' + 1, x :: l, acc, h, _ => by simp at h
  | k + 1, 0, [], acc, _, _ => rfl
  | k + 1, 0, x :: l, acc, _, h => by simp at h
  | k + 1, k' + 1, [], acc, _, _ => rfl
  | k + 1, k' + 1, x :: l, acc, h, h' => by
    simp only [List.length_cons] at h h'
    have hd : (l.dropWhile isDig).length ≤ l.length := (List.dropWhile_sublist isDig).length_le
    simp only [numsS]
    split
    · exact numsS_fuel k k' l acc (by omega) (by omega)
    · split
      · rfl
      · split
        · rfl
        · exact numsS_fuel k k' _ _ (by omega) (by omega)
theorem numsI_fuel : ∀ (k k' : Nat) (l acc : List _), l.length ≤ k → l.length ≤ k' → numsI k l acc = numsI k' l acc
  | 0, 0, l, acc, _, _ => rfl
  | 0, k' + 1, [], acc, _, _ => rfl
  | 0, k' + 1, x :: l, acc, h, _ => by simp at h
  | k + 1, 0, [], acc, _, _ => rfl
  | k + 1, 0, x :: l, acc, _, h => by simp at h
  | k + 1, k' + 1, [], acc, _, _ => rfl
  | k + 1, k' + 1, x :: l, acc, h, h' => by
    simp only [List.length_cons] at h h'
    have hd : (l.dropWhile isDig).length ≤ l.length := (List.dropWhile_sublist isDig).length_le
    simp only [numsI]
    split
    · exact numsI_fuel k k' l acc (by omega) (by omega)
    · split
      · rfl
      · split
        · rfl
        · exact numsI_fuel k k' _ _ (by omega) (by omega)
def nS (l : List UInt8) (acc : List Int) : Option (List Int) := numsS l.length l acc
def nI (l : List UInt8) (acc : List Int) : Option (List Int) := numsI l.length l acc
theorem nS_nil (acc : List Int) : nS [] acc = some acc := rfl
theorem nI_nil (acc : List Int) : nI [] acc = some acc := rfl
theorem nS_skip {x : UInt8} {l : List UInt8} {acc : List Int} (h : x ≠ 120 ∧ x ≠ 102) : nS (x :: l) acc = nS l acc := by
  unfold nS
  rw [List.length_cons]
  simp only [numsS]
  rw [if_pos h]
theorem nI_skip {x : UInt8} {l : List UInt8} {acc : List Int} (h : x = 40 ∨ x = 44 ∨ x = 41) : nI (x :: l) acc = nI l acc := by
  unfold nI
  rw [List.length_cons]
  simp only [numsI]
  rw [if_pos h]
theorem nS_num {x : UInt8} {l r : List UInt8} {acc : List Int} {a : List UInt8} (h : x = 120 ∨ x = 102) (hw : l.takeWhile isDig = a ∧ l.dropWhile isDig = r) : nS (x :: l) acc = match readN a with
    | none => none
    | some n => if 60 ≤ acc.length then none else nS r (acc ++ [if x = 120 then -1 - n else n]) := by
  unfold nS
  rw [List.length_cons]
  simp only [numsS]
  have hd : (l.dropWhile isDig).length ≤ l.length := (List.dropWhile_sublist isDig).length_le
  rw [if_neg (by rintro ⟨h1, h2⟩; rcases h with h | h <;> contradiction), hw.1]
  rw [hw.2] at hd ⊢
  cases hq : readN a with
  | none => rfl
  | some n =>
    show (if 60 ≤ acc.length then none else _) = (if 60 ≤ acc.length then none else _)
    split
    · rfl
    · exact numsS_fuel _ _ _ _ hd (Nat.le_refl _)
theorem nI_num {x : UInt8} {l r : List UInt8} {acc : List Int} {a : List UInt8} (h : ¬ (x = 40 ∨ x = 44 ∨ x = 41)) (hw : l.takeWhile isDig = a ∧ l.dropWhile isDig = r) : nI (x :: l) acc = match readN a with
    | none => none
    | some n => if x ≠ 120 ∧ x ≠ 102 then none else nI r (acc ++ [if x = 120 then -1 - n else n]) := by
  unfold nI
  rw [List.length_cons]
  simp only [numsI]
  have hd : (l.dropWhile isDig).length ≤ l.length := (List.dropWhile_sublist isDig).length_le
  rw [if_neg h, hw.1]
  rw [hw.2] at hd ⊢
  cases hq : readN a with
  | none => rfl
  | some n =>
    show (if x ≠ 120 ∧ x ≠ 102 then none else _) = (if x ≠ 120 ∧ x ≠ 102 then none else _)
    split
    · rfl
    · exact numsI_fuel _ _ _ _ hd (Nat.le_refl _)
/-- Where a run of digits ends. -/
theorem while_at {r : List UInt8} {j : Nat} (h : (r.take j).all isDig = true) (he : ∀ y, r[j]? = some y → isDig y = false) : r.takeWhile isDig = r.take j ∧ r.dropWhile isDig = r.drop j := by
  have := while_app (a := r.take j) (l := r.drop j) (List.all_eq_true.1 h) (fun y hy => he y (by rw [List.head?_drop] at hy; exact hy))
  rwa [List.take_append_drop] at this
end Pl
theorem rd_some {a : List UInt8} (h : rdB a = true) : Pl.readN a = some (rdV a) := by
  unfold rdB at h
  unfold rdV
  cases hq : Pl.readN a with
  | none => rw [hq] at h; cases h
  | some n => rfl
theorem rd_none {a : List UInt8} (h : rdB a = false) : Pl.readN a = none := by
  unfold rdB at h
  cases hq : Pl.readN a with
  | none => rfl
  | some n => rw [hq] at h; cases h
def V_numsS (s : ByteArray) : List Int × Bool := match Pl.nS s.data.toList [] with
  | some xs => (xs, true)
  | none => ([], false)
theorem V_numsS_none {s : ByteArray} (h : Pl.nS s.data.toList [] = none) : V_numsS s = ([], false) := by unfold V_numsS; rw [h]
theorem V_numsS_some {s : ByteArray} {xs : List Int} (h : Pl.nS s.data.toList [] = some xs) : V_numsS s = (xs, true) := by unfold V_numsS; rw [h]
theorem oi_empty (w : World) : OI (w.alloc (.cells #[] 2)) w.heap.size (some ⟨w.heap.size, 0, none⟩) 0 0 [] :=
  ⟨rfl, Or.inr ⟨w.heap.size, 0, #[], rfl, Nat.le_refl _, Blk.new w 2 #[], Nat.le_refl _, by unfold maxLen; omega, by simp, by simp⟩⟩
theorem oi_emptyO {w : World} {B : Nat} (h : B ≤ w.heap.size) : OI (w.alloc (.cells #[] 2)) B (some ⟨w.heap.size, 0, none⟩) 0 0 [] :=
  ⟨rfl, Or.inr ⟨w.heap.size, 0, #[], rfl, h, Blk.new w 2 #[], Nat.le_refl _, by unfold maxLen; omega, by simp, by simp⟩⟩
theorem piece_at {l : List UInt8} {f k : Nat} : ((l.drop f).take k) = (l.take (f + k)).drop f := by
  rw [List.drop_take, show f + k - f = k by omega]
set_option maxHeartbeats 8000000 in
set_option maxRecDepth 20000 in
theorem l10Numbers_any (s : ByteArray) (w : World) (hs : s.size ≤ 400) :
    Calls Tryz.prog 49 #[.string s] w fun e w' => ∃ A' c', e = .returned (.tuple #[.slice A' (V_numsS s).1.length c', .bool (V_numsS s).2]) ∧ OI w' w.heap.size A' (V_numsS s).1.length c' (V_numsS s).1 ∧ (V_numsS s).1.length ≤ 400 ∧ Below w.heap.size w w' := by
  obtain ⟨i0, hi, hz0, hz1, hz2⟩ := info_parts infoInt64
  have hl := size_len s
  have hO := Lib.hid (oi_empty w)
  have hB0 : Below w.heap.size w (w.alloc (.cells #[] 2)) := (Below.refl _ _).alloc (Nat.le_refl _) _
  have HVN := Lib.hid (fun h => V_numsS_none (s := s) h)
  have HVS := Lib.hid (fun xs h => V_numsS_some (s := s) (xs := xs) h)
  go_enter Tryz.func49, Tryz.ntmps49
  go_wp2_with fail
  generalize w.alloc (.cells #[] 2) = W0 at *
  go_loopg [4, 5] (s.size) (fun gg u i wr => ∃ (k : Nat) (acc : List Int) (A' : Option Addr) (c' : Nat), Hid (gg = s.size - k) ∧ k ≤ s.size ∧ i = .int .i64 k ∧ u = .slice A' acc.length c' ∧ acc.length ≤ k ∧ Hid (OI wr w.heap.size A' acc.length c' acc) ∧ Hid (Pl.nS s.data.toList [] = Pl.nS (s.data.toList.drop k) acc) ∧ Below w.heap.size w wr)
  case atStart => exact ⟨0, [], _, _, Lib.hid rfl, Nat.zero_le _, rfl, rfl, by simp, hO, Lib.hid rfl, hB0⟩
  case round =>
    obtain ⟨k, acc, A', c', HG, hk, rfl, rfl, ha, HO, HN, hb⟩ := hrel
    have hsr := hb.size
    by_cases hlt : k < s.size
    · obtain ⟨x, hx, hx2⟩ := byte_at (s := s) (k := k) hlt
      have hdr : s.data.toList.drop k = x :: s.data.toList.drop (k + 1) := by
        rw [List.drop_eq_getElem_cons (by omega), (List.getElem?_eq_some_iff.1 hx2).2]
      by_cases hxx : x = 120 ∨ x = 102
      · have hn1 := fun a r hw => (HN.out.trans (congrArg (fun q => Pl.nS q acc) hdr)).trans (Pl.nS_num (acc := acc) (a := a) (r := r) hxx hw)
        have HNN := Lib.hid hn1
        clear hn1 hdr hx2 HN
        obtain ⟨xb, hxb⟩ : ∃ xb : Bool, xb = decide (x = 120) := ⟨_, rfl⟩
        have hxn : (xb = true ∧ (x.toNat : Int) = 120) ∨ (xb = false ∧ (x.toNat : Int) = 102) := by
          rcases hxx with h | h
          · left; subst h; exact ⟨by rw [hxb]; rfl, rfl⟩
          · right; subst h; exact ⟨by rw [hxb]; rfl, rfl⟩
        have HXB := Lib.hid hxb
        clear hxb hxx
        rcases hxn with ⟨rfl, hxn⟩ | ⟨rfl, hxn⟩
        · go_wp2_with fail
          obtain ⟨f, hf⟩ : ∃ f : Nat, k + 1 = f := ⟨_, rfl⟩
          have HF : Hid (f = k + 1) := Lib.hid hf.symm
          have hf2 : (k : Int) + 1 = (f : Int) := by omega
          rw [hf2]
          clear hf hf2
          go_loopg [5] (s.size - (k + 1)) (fun g2 i wz => ∃ (e : Nat), Hid (g2 = s.size - e) ∧ i = .int .i64 e ∧ f ≤ e ∧ e ≤ s.size ∧ Hid (((s.data.toList.drop (k + 1)).take (e - (k + 1))).all Pl.isDig = true) ∧ wz = wr)
          case atStart => exact ⟨f, Lib.hid (by rw [HF.out]), rfl, by omega, by have := HF.out; omega, Lib.hid (by rw [HF.out]; simp), rfl⟩
          case round =>
            rename World => wz
            obtain ⟨e, HG2, rfl, hfe, hes, HD, rfl⟩ := hrel
            have hkf : k < f := by have := HF.out; omega
            by_cases hle : e < s.size
            · obtain ⟨y, hy, hy2⟩ := byte_at (s := s) (k := e) hle
              have hy255 := y.toNat_lt
              by_cases hd : 48 ≤ y.toNat ∧ y.toNat ≤ 57
              · have HD2 : Hid (((s.data.toList.drop (k + 1)).take (e + 1 - (k + 1))).all Pl.isDig = true) := Lib.hid (by
                  rw [piece_snoc hy2 (by have := HF.out; omega), List.all_append, HD.out]
                  simp only [List.all_cons, List.all_nil, Bool.and_true, Bool.true_and]
                  exact decide_eq_true hd)
                have hd1 : (48 : Int) ≤ (y.toNat : Int) := by omega
                have hd2 : (y.toNat : Int) ≤ 57 := by omega
                clear hy2 HD
                go_wp2_with fail
                go_roundg (s.size - (e + 1))
                case measure => rw [HG2.out]; omega
                case rel => exact ⟨e + 1, Lib.hid rfl, by go_num, by omega, by omega, HD2, rfl⟩
              · have HW := Lib.hid (Pl.while_at (r := s.data.toList.drop (k + 1)) (j := e - (k + 1)) HD.out (fun z hz => by
                  rw [List.getElem?_drop, show k + 1 + (e - (k + 1)) = e by have := HF.out; omega, hy2] at hz
                  injection hz with hz
                  subst hz
                  exact decide_eq_false hd))
                clear hy2 HD
                rcases (by omega : (y.toNat : Int) < 48 ∨ ((48 : Int) ≤ (y.toNat : Int) ∧ 57 < (y.toNat : Int))) with hd1 | ⟨hd1, hd2⟩
                · have hd3 : ¬ (48 : Int) ≤ (y.toNat : Int) := by omega
                  obtain ⟨P, hP⟩ : ∃ P : ByteArray, Hid (P = s.extract f e) := ⟨_, Lib.hid rfl⟩
                  have hPe : s.extract f e = P := hP.out.symm
                  have hPd : P.data.toList = (s.data.toList.drop (k + 1)).take (e - (k + 1)) := by rw [hP.out, Go.Lib.extract_data, HF.out]
                  have HN3 := Lib.hid (HNN.out _ _ HW.out)
                  rw [← hPd, List.drop_drop, show k + 1 + (e - (k + 1)) = e by have := HF.out; omega] at HN3
                  have hPs : P.size ≤ 400 := by rw [← size_len, hPd, List.length_take]; omega
                  clear hPd HW HNN
                  go_wp2_with fail
                  refine (l1Read_any P _ (by omega)).mono ?_
                  rintro e1 w3 ⟨rfl, rfl⟩
                  have hv := rdV_bd (l := P.data.toList)
                  cases hq : rdB P.data.toList
                  · rw [rd_none hq] at HN3
                    have HE := Lib.hid (HVN.out HN3.out)
                    clear hq HN3 hv
                    go_wp2_with fail
                    go_ret2
                    rw [HE.out]
                    exact ⟨_, 0, rfl, oi_emptyO hb.size, Nat.zero_le _, hb.alloc hb.size _⟩
                  · rw [rd_some hq] at HN3
                    obtain ⟨v, hv2⟩ : ∃ v, rdV P.data.toList = v := ⟨_, rfl⟩
                    rw [hv2] at hv HN3 ⊢
                    clear hv2 hq
                    by_cases hm : 60 ≤ acc.length
                    · have HE := Lib.hid (HVN.out (HN3.out.trans (if_pos hm)))
                      clear HN3
                      go_wp2_with fail
                      go_ret2
                      rw [HE.out]
                      exact ⟨_, 0, rfl, oi_emptyO hb.size, Nat.zero_le _, hb.alloc hb.size _⟩
                    · have HN4 : Hid (Pl.nS s.data.toList [] = Pl.nS (s.data.toList.drop (e)) (acc ++ [-1 - v])) := Lib.hid (HN3.out.trans ((if_neg hm).trans (by first | rw [if_pos (of_decide_eq_true HXB.out.symm)] | rw [if_neg (of_decide_eq_false HXB.out.symm)])))
                      have howa := Lib.hid (ownsRow_below HO.out ((Below.refl _ w3).alloc (Nat.le_refl _) (.cells #[.int .i64 (-1 - v)] 2)))
                      clear HN3
                      go_wp2_with (at_builtin; (refine wpList_append_any rfl _ _ 24 rfl w.heap.size 2 i0 (.int .i64 0) 1 8 Tryz.underlying24 hi hz0 hz1 hz2 rfl (by omega) A' acc.length c' (acc.map (Value.int .i64)) rfl howa.out _ 1 _ [.int .i64 (-1 - v)] rfl (Src.new _ [.int .i64 (-1 - v)] _ 1 1 rfl (by simp [Value.oneCell'])) (by unfold maxLen; omega) (by omega) (by simp; omega) ?_; intro A2 c2 w2 ho2 hg hnil))
                      have hgb := app_below hg howa.out (by omega)
                      have hb3 := hb.trans (hgb.mono (by omega))
                      have HO3 : Hid (OI w2 w.heap.size A2 (acc ++ [-1 - v]).length c2 (acc ++ [-1 - v])) := Lib.hid (OI.snoc ho2)
                      clear hgb howa ho2 hg HO hb
                      go_wp2_with fail
                      go_roundg (s.size - (e))
                      case measure => rw [HG.out]; have := HF.out; omega
                      case rel => exact ⟨e, acc ++ [-1 - v], A2, c2, Lib.hid rfl, by omega, by go_num, by simp, by simp; omega, HO3, HN4, hb3⟩
                · have hd3 : ¬ (y.toNat : Int) ≤ 57 := by omega
                  obtain ⟨P, hP⟩ : ∃ P : ByteArray, Hid (P = s.extract f e) := ⟨_, Lib.hid rfl⟩
                  have hPe : s.extract f e = P := hP.out.symm
                  have hPd : P.data.toList = (s.data.toList.drop (k + 1)).take (e - (k + 1)) := by rw [hP.out, Go.Lib.extract_data, HF.out]
                  have HN3 := Lib.hid (HNN.out _ _ HW.out)
                  rw [← hPd, List.drop_drop, show k + 1 + (e - (k + 1)) = e by have := HF.out; omega] at HN3
                  have hPs : P.size ≤ 400 := by rw [← size_len, hPd, List.length_take]; omega
                  clear hPd HW HNN
                  go_wp2_with fail
                  refine (l1Read_any P _ (by omega)).mono ?_
                  rintro e1 w3 ⟨rfl, rfl⟩
                  have hv := rdV_bd (l := P.data.toList)
                  cases hq : rdB P.data.toList
                  · rw [rd_none hq] at HN3
                    have HE := Lib.hid (HVN.out HN3.out)
                    clear hq HN3 hv
                    go_wp2_with fail
                    go_ret2
                    rw [HE.out]
                    exact ⟨_, 0, rfl, oi_emptyO hb.size, Nat.zero_le _, hb.alloc hb.size _⟩
                  · rw [rd_some hq] at HN3
                    obtain ⟨v, hv2⟩ : ∃ v, rdV P.data.toList = v := ⟨_, rfl⟩
                    rw [hv2] at hv HN3 ⊢
                    clear hv2 hq
                    by_cases hm : 60 ≤ acc.length
                    · have HE := Lib.hid (HVN.out (HN3.out.trans (if_pos hm)))
                      clear HN3
                      go_wp2_with fail
                      go_ret2
                      rw [HE.out]
                      exact ⟨_, 0, rfl, oi_emptyO hb.size, Nat.zero_le _, hb.alloc hb.size _⟩
                    · have HN4 : Hid (Pl.nS s.data.toList [] = Pl.nS (s.data.toList.drop (e)) (acc ++ [-1 - v])) := Lib.hid (HN3.out.trans ((if_neg hm).trans (by first | rw [if_pos (of_decide_eq_true HXB.out.symm)] | rw [if_neg (of_decide_eq_false HXB.out.symm)])))
                      have howa := Lib.hid (ownsRow_below HO.out ((Below.refl _ w3).alloc (Nat.le_refl _) (.cells #[.int .i64 (-1 - v)] 2)))
                      clear HN3
                      go_wp2_with (at_builtin; (refine wpList_append_any rfl _ _ 24 rfl w.heap.size 2 i0 (.int .i64 0) 1 8 Tryz.underlying24 hi hz0 hz1 hz2 rfl (by omega) A' acc.length c' (acc.map (Value.int .i64)) rfl howa.out _ 1 _ [.int .i64 (-1 - v)] rfl (Src.new _ [.int .i64 (-1 - v)] _ 1 1 rfl (by simp [Value.oneCell'])) (by unfold maxLen; omega) (by omega) (by simp; omega) ?_; intro A2 c2 w2 ho2 hg hnil))
                      have hgb := app_below hg howa.out (by omega)
                      have hb3 := hb.trans (hgb.mono (by omega))
                      have HO3 : Hid (OI w2 w.heap.size A2 (acc ++ [-1 - v]).length c2 (acc ++ [-1 - v])) := Lib.hid (OI.snoc ho2)
                      clear hgb howa ho2 hg HO hb
                      go_wp2_with fail
                      go_roundg (s.size - (e))
                      case measure => rw [HG.out]; have := HF.out; omega
                      case rel => exact ⟨e, acc ++ [-1 - v], A2, c2, Lib.hid rfl, by omega, by go_num, by simp, by simp; omega, HO3, HN4, hb3⟩
            · obtain rfl : e = s.size := by omega
              have HW := Lib.hid (Pl.while_at (r := s.data.toList.drop (k + 1)) (j := s.size - (k + 1)) HD.out (fun z hz => by
                rw [List.getElem?_drop, List.getElem?_eq_none (by omega)] at hz
                cases hz))
              clear HD
              have e := s.size
              have heq : s.size = s.size := rfl
              obtain ⟨P, hP⟩ : ∃ P : ByteArray, Hid (P = s.extract f s.size) := ⟨_, Lib.hid rfl⟩
              have hPe : s.extract f s.size = P := hP.out.symm
              have hPd : P.data.toList = (s.data.toList.drop (k + 1)).take (s.size - (k + 1)) := by rw [hP.out, Go.Lib.extract_data, HF.out]
              have HN3 := Lib.hid (HNN.out _ _ HW.out)
              rw [← hPd, List.drop_drop, show k + 1 + (s.size - (k + 1)) = s.size by have := HF.out; omega] at HN3
              have hPs : P.size ≤ 400 := by rw [← size_len, hPd, List.length_take]; omega
              clear hPd HW HNN e heq
              go_wp2_with fail
              refine (l1Read_any P _ (by omega)).mono ?_
              rintro e1 w3 ⟨rfl, rfl⟩
              have hv := rdV_bd (l := P.data.toList)
              cases hq : rdB P.data.toList
              · rw [rd_none hq] at HN3
                have HE := Lib.hid (HVN.out HN3.out)
                clear hq HN3 hv
                go_wp2_with fail
                go_ret2
                rw [HE.out]
                exact ⟨_, 0, rfl, oi_emptyO hb.size, Nat.zero_le _, hb.alloc hb.size _⟩
              · rw [rd_some hq] at HN3
                obtain ⟨v, hv2⟩ : ∃ v, rdV P.data.toList = v := ⟨_, rfl⟩
                rw [hv2] at hv HN3 ⊢
                clear hv2 hq
                by_cases hm : 60 ≤ acc.length
                · have HE := Lib.hid (HVN.out (HN3.out.trans (if_pos hm)))
                  clear HN3
                  go_wp2_with fail
                  go_ret2
                  rw [HE.out]
                  exact ⟨_, 0, rfl, oi_emptyO hb.size, Nat.zero_le _, hb.alloc hb.size _⟩
                · have HN4 : Hid (Pl.nS s.data.toList [] = Pl.nS (s.data.toList.drop (s.size)) (acc ++ [-1 - v])) := Lib.hid (HN3.out.trans ((if_neg hm).trans (by first | rw [if_pos (of_decide_eq_true HXB.out.symm)] | rw [if_neg (of_decide_eq_false HXB.out.symm)])))
                  have howa := Lib.hid (ownsRow_below HO.out ((Below.refl _ w3).alloc (Nat.le_refl _) (.cells #[.int .i64 (-1 - v)] 2)))
                  clear HN3
                  go_wp2_with (at_builtin; (refine wpList_append_any rfl _ _ 24 rfl w.heap.size 2 i0 (.int .i64 0) 1 8 Tryz.underlying24 hi hz0 hz1 hz2 rfl (by omega) A' acc.length c' (acc.map (Value.int .i64)) rfl howa.out _ 1 _ [.int .i64 (-1 - v)] rfl (Src.new _ [.int .i64 (-1 - v)] _ 1 1 rfl (by simp [Value.oneCell'])) (by unfold maxLen; omega) (by omega) (by simp; omega) ?_; intro A2 c2 w2 ho2 hg hnil))
                  have hgb := app_below hg howa.out (by omega)
                  have hb3 := hb.trans (hgb.mono (by omega))
                  have HO3 : Hid (OI w2 w.heap.size A2 (acc ++ [-1 - v]).length c2 (acc ++ [-1 - v])) := Lib.hid (OI.snoc ho2)
                  clear hgb howa ho2 hg HO hb
                  go_wp2_with fail
                  go_roundg (s.size - (s.size))
                  case measure => rw [HG.out]; have := HF.out; omega
                  case rel => exact ⟨s.size, acc ++ [-1 - v], A2, c2, Lib.hid rfl, by omega, by go_num, by simp, by simp; omega, HO3, HN4, hb3⟩
        · go_wp2_with fail
          obtain ⟨f, hf⟩ : ∃ f : Nat, k + 1 = f := ⟨_, rfl⟩
          have HF : Hid (f = k + 1) := Lib.hid hf.symm
          have hf2 : (k : Int) + 1 = (f : Int) := by omega
          rw [hf2]
          clear hf hf2
          go_loopg [5] (s.size - (k + 1)) (fun g2 i wz => ∃ (e : Nat), Hid (g2 = s.size - e) ∧ i = .int .i64 e ∧ f ≤ e ∧ e ≤ s.size ∧ Hid (((s.data.toList.drop (k + 1)).take (e - (k + 1))).all Pl.isDig = true) ∧ wz = wr)
          case atStart => exact ⟨f, Lib.hid (by rw [HF.out]), rfl, by omega, by have := HF.out; omega, Lib.hid (by rw [HF.out]; simp), rfl⟩
          case round =>
            rename World => wz
            obtain ⟨e, HG2, rfl, hfe, hes, HD, rfl⟩ := hrel
            have hkf : k < f := by have := HF.out; omega
            by_cases hle : e < s.size
            · obtain ⟨y, hy, hy2⟩ := byte_at (s := s) (k := e) hle
              have hy255 := y.toNat_lt
              by_cases hd : 48 ≤ y.toNat ∧ y.toNat ≤ 57
              · have HD2 : Hid (((s.data.toList.drop (k + 1)).take (e + 1 - (k + 1))).all Pl.isDig = true) := Lib.hid (by
                  rw [piece_snoc hy2 (by have := HF.out; omega), List.all_append, HD.out]
                  simp only [List.all_cons, List.all_nil, Bool.and_true, Bool.true_and]
                  exact decide_eq_true hd)
                have hd1 : (48 : Int) ≤ (y.toNat : Int) := by omega
                have hd2 : (y.toNat : Int) ≤ 57 := by omega
                clear hy2 HD
                go_wp2_with fail
                go_roundg (s.size - (e + 1))
                case measure => rw [HG2.out]; omega
                case rel => exact ⟨e + 1, Lib.hid rfl, by go_num, by omega, by omega, HD2, rfl⟩
              · have HW := Lib.hid (Pl.while_at (r := s.data.toList.drop (k + 1)) (j := e - (k + 1)) HD.out (fun z hz => by
                  rw [List.getElem?_drop, show k + 1 + (e - (k + 1)) = e by have := HF.out; omega, hy2] at hz
                  injection hz with hz
                  subst hz
                  exact decide_eq_false hd))
                clear hy2 HD
                rcases (by omega : (y.toNat : Int) < 48 ∨ ((48 : Int) ≤ (y.toNat : Int) ∧ 57 < (y.toNat : Int))) with hd1 | ⟨hd1, hd2⟩
                · have hd3 : ¬ (48 : Int) ≤ (y.toNat : Int) := by omega
                  obtain ⟨P, hP⟩ : ∃ P : ByteArray, Hid (P = s.extract f e) := ⟨_, Lib.hid rfl⟩
                  have hPe : s.extract f e = P := hP.out.symm
                  have hPd : P.data.toList = (s.data.toList.drop (k + 1)).take (e - (k + 1)) := by rw [hP.out, Go.Lib.extract_data, HF.out]
                  have HN3 := Lib.hid (HNN.out _ _ HW.out)
                  rw [← hPd, List.drop_drop, show k + 1 + (e - (k + 1)) = e by have := HF.out; omega] at HN3
                  have hPs : P.size ≤ 400 := by rw [← size_len, hPd, List.length_take]; omega
                  clear hPd HW HNN
                  go_wp2_with fail
                  refine (l1Read_any P _ (by omega)).mono ?_
                  rintro e1 w3 ⟨rfl, rfl⟩
                  have hv := rdV_bd (l := P.data.toList)
                  cases hq : rdB P.data.toList
                  · rw [rd_none hq] at HN3
                    have HE := Lib.hid (HVN.out HN3.out)
                    clear hq HN3 hv
                    go_wp2_with fail
                    go_ret2
                    rw [HE.out]
                    exact ⟨_, 0, rfl, oi_emptyO hb.size, Nat.zero_le _, hb.alloc hb.size _⟩
                  · rw [rd_some hq] at HN3
                    obtain ⟨v, hv2⟩ : ∃ v, rdV P.data.toList = v := ⟨_, rfl⟩
                    rw [hv2] at hv HN3 ⊢
                    clear hv2 hq
                    by_cases hm : 60 ≤ acc.length
                    · have HE := Lib.hid (HVN.out (HN3.out.trans (if_pos hm)))
                      clear HN3
                      go_wp2_with fail
                      go_ret2
                      rw [HE.out]
                      exact ⟨_, 0, rfl, oi_emptyO hb.size, Nat.zero_le _, hb.alloc hb.size _⟩
                    · have HN4 : Hid (Pl.nS s.data.toList [] = Pl.nS (s.data.toList.drop (e)) (acc ++ [v])) := Lib.hid (HN3.out.trans ((if_neg hm).trans (by first | rw [if_pos (of_decide_eq_true HXB.out.symm)] | rw [if_neg (of_decide_eq_false HXB.out.symm)])))
                      have howa := Lib.hid (ownsRow_below HO.out ((Below.refl _ w3).alloc (Nat.le_refl _) (.cells #[.int .i64 (v)] 2)))
                      clear HN3
                      go_wp2_with (at_builtin; (refine wpList_append_any rfl _ _ 24 rfl w.heap.size 2 i0 (.int .i64 0) 1 8 Tryz.underlying24 hi hz0 hz1 hz2 rfl (by omega) A' acc.length c' (acc.map (Value.int .i64)) rfl howa.out _ 1 _ [.int .i64 (v)] rfl (Src.new _ [.int .i64 (v)] _ 1 1 rfl (by simp [Value.oneCell'])) (by unfold maxLen; omega) (by omega) (by simp; omega) ?_; intro A2 c2 w2 ho2 hg hnil))
                      have hgb := app_below hg howa.out (by omega)
                      have hb3 := hb.trans (hgb.mono (by omega))
                      have HO3 : Hid (OI w2 w.heap.size A2 (acc ++ [v]).length c2 (acc ++ [v])) := Lib.hid (OI.snoc ho2)
                      clear hgb howa ho2 hg HO hb
                      go_wp2_with fail
                      go_roundg (s.size - (e))
                      case measure => rw [HG.out]; have := HF.out; omega
                      case rel => exact ⟨e, acc ++ [v], A2, c2, Lib.hid rfl, by omega, by go_num, by simp, by simp; omega, HO3, HN4, hb3⟩
                · have hd3 : ¬ (y.toNat : Int) ≤ 57 := by omega
                  obtain ⟨P, hP⟩ : ∃ P : ByteArray, Hid (P = s.extract f e) := ⟨_, Lib.hid rfl⟩
                  have hPe : s.extract f e = P := hP.out.symm
                  have hPd : P.data.toList = (s.data.toList.drop (k + 1)).take (e - (k + 1)) := by rw [hP.out, Go.Lib.extract_data, HF.out]
                  have HN3 := Lib.hid (HNN.out _ _ HW.out)
                  rw [← hPd, List.drop_drop, show k + 1 + (e - (k + 1)) = e by have := HF.out; omega] at HN3
                  have hPs : P.size ≤ 400 := by rw [← size_len, hPd, List.length_take]; omega
                  clear hPd HW HNN
                  go_wp2_with fail
                  refine (l1Read_any P _ (by omega)).mono ?_
                  rintro e1 w3 ⟨rfl, rfl⟩
                  have hv := rdV_bd (l := P.data.toList)
                  cases hq : rdB P.data.toList
                  · rw [rd_none hq] at HN3
                    have HE := Lib.hid (HVN.out HN3.out)
                    clear hq HN3 hv
                    go_wp2_with fail
                    go_ret2
                    rw [HE.out]
                    exact ⟨_, 0, rfl, oi_emptyO hb.size, Nat.zero_le _, hb.alloc hb.size _⟩
                  · rw [rd_some hq] at HN3
                    obtain ⟨v, hv2⟩ : ∃ v, rdV P.data.toList = v := ⟨_, rfl⟩
                    rw [hv2] at hv HN3 ⊢
                    clear hv2 hq
                    by_cases hm : 60 ≤ acc.length
                    · have HE := Lib.hid (HVN.out (HN3.out.trans (if_pos hm)))
                      clear HN3
                      go_wp2_with fail
                      go_ret2
                      rw [HE.out]
                      exact ⟨_, 0, rfl, oi_emptyO hb.size, Nat.zero_le _, hb.alloc hb.size _⟩
                    · have HN4 : Hid (Pl.nS s.data.toList [] = Pl.nS (s.data.toList.drop (e)) (acc ++ [v])) := Lib.hid (HN3.out.trans ((if_neg hm).trans (by first | rw [if_pos (of_decide_eq_true HXB.out.symm)] | rw [if_neg (of_decide_eq_false HXB.out.symm)])))
                      have howa := Lib.hid (ownsRow_below HO.out ((Below.refl _ w3).alloc (Nat.le_refl _) (.cells #[.int .i64 (v)] 2)))
                      clear HN3
                      go_wp2_with (at_builtin; (refine wpList_append_any rfl _ _ 24 rfl w.heap.size 2 i0 (.int .i64 0) 1 8 Tryz.underlying24 hi hz0 hz1 hz2 rfl (by omega) A' acc.length c' (acc.map (Value.int .i64)) rfl howa.out _ 1 _ [.int .i64 (v)] rfl (Src.new _ [.int .i64 (v)] _ 1 1 rfl (by simp [Value.oneCell'])) (by unfold maxLen; omega) (by omega) (by simp; omega) ?_; intro A2 c2 w2 ho2 hg hnil))
                      have hgb := app_below hg howa.out (by omega)
                      have hb3 := hb.trans (hgb.mono (by omega))
                      have HO3 : Hid (OI w2 w.heap.size A2 (acc ++ [v]).length c2 (acc ++ [v])) := Lib.hid (OI.snoc ho2)
                      clear hgb howa ho2 hg HO hb
                      go_wp2_with fail
                      go_roundg (s.size - (e))
                      case measure => rw [HG.out]; have := HF.out; omega
                      case rel => exact ⟨e, acc ++ [v], A2, c2, Lib.hid rfl, by omega, by go_num, by simp, by simp; omega, HO3, HN4, hb3⟩
            · obtain rfl : e = s.size := by omega
              have HW := Lib.hid (Pl.while_at (r := s.data.toList.drop (k + 1)) (j := s.size - (k + 1)) HD.out (fun z hz => by
                rw [List.getElem?_drop, List.getElem?_eq_none (by omega)] at hz
                cases hz))
              clear HD
              have e := s.size
              have heq : s.size = s.size := rfl
              obtain ⟨P, hP⟩ : ∃ P : ByteArray, Hid (P = s.extract f s.size) := ⟨_, Lib.hid rfl⟩
              have hPe : s.extract f s.size = P := hP.out.symm
              have hPd : P.data.toList = (s.data.toList.drop (k + 1)).take (s.size - (k + 1)) := by rw [hP.out, Go.Lib.extract_data, HF.out]
              have HN3 := Lib.hid (HNN.out _ _ HW.out)
              rw [← hPd, List.drop_drop, show k + 1 + (s.size - (k + 1)) = s.size by have := HF.out; omega] at HN3
              have hPs : P.size ≤ 400 := by rw [← size_len, hPd, List.length_take]; omega
              clear hPd HW HNN e heq
              go_wp2_with fail
              refine (l1Read_any P _ (by omega)).mono ?_
              rintro e1 w3 ⟨rfl, rfl⟩
              have hv := rdV_bd (l := P.data.toList)
              cases hq : rdB P.data.toList
              · rw [rd_none hq] at HN3
                have HE := Lib.hid (HVN.out HN3.out)
                clear hq HN3 hv
                go_wp2_with fail
                go_ret2
                rw [HE.out]
                exact ⟨_, 0, rfl, oi_emptyO hb.size, Nat.zero_le _, hb.alloc hb.size _⟩
              · rw [rd_some hq] at HN3
                obtain ⟨v, hv2⟩ : ∃ v, rdV P.data.toList = v := ⟨_, rfl⟩
                rw [hv2] at hv HN3 ⊢
                clear hv2 hq
                by_cases hm : 60 ≤ acc.length
                · have HE := Lib.hid (HVN.out (HN3.out.trans (if_pos hm)))
                  clear HN3
                  go_wp2_with fail
                  go_ret2
                  rw [HE.out]
                  exact ⟨_, 0, rfl, oi_emptyO hb.size, Nat.zero_le _, hb.alloc hb.size _⟩
                · have HN4 : Hid (Pl.nS s.data.toList [] = Pl.nS (s.data.toList.drop (s.size)) (acc ++ [v])) := Lib.hid (HN3.out.trans ((if_neg hm).trans (by first | rw [if_pos (of_decide_eq_true HXB.out.symm)] | rw [if_neg (of_decide_eq_false HXB.out.symm)])))
                  have howa := Lib.hid (ownsRow_below HO.out ((Below.refl _ w3).alloc (Nat.le_refl _) (.cells #[.int .i64 (v)] 2)))
                  clear HN3
                  go_wp2_with (at_builtin; (refine wpList_append_any rfl _ _ 24 rfl w.heap.size 2 i0 (.int .i64 0) 1 8 Tryz.underlying24 hi hz0 hz1 hz2 rfl (by omega) A' acc.length c' (acc.map (Value.int .i64)) rfl howa.out _ 1 _ [.int .i64 (v)] rfl (Src.new _ [.int .i64 (v)] _ 1 1 rfl (by simp [Value.oneCell'])) (by unfold maxLen; omega) (by omega) (by simp; omega) ?_; intro A2 c2 w2 ho2 hg hnil))
                  have hgb := app_below hg howa.out (by omega)
                  have hb3 := hb.trans (hgb.mono (by omega))
                  have HO3 : Hid (OI w2 w.heap.size A2 (acc ++ [v]).length c2 (acc ++ [v])) := Lib.hid (OI.snoc ho2)
                  clear hgb howa ho2 hg HO hb
                  go_wp2_with fail
                  go_roundg (s.size - (s.size))
                  case measure => rw [HG.out]; have := HF.out; omega
                  case rel => exact ⟨s.size, acc ++ [v], A2, c2, Lib.hid rfl, by omega, by go_num, by simp, by simp; omega, HO3, HN4, hb3⟩
      · have hx12 : x ≠ 120 ∧ x ≠ 102 := ⟨fun h => hxx (Or.inl h), fun h => hxx (Or.inr h)⟩
        have HN2 := Lib.hid ((HN.out.trans (congrArg (fun q => Pl.nS q acc) hdr)).trans (Pl.nS_skip hx12))
        have e1 : ((x.toNat : Int) != 120) = true := bne_iff_ne.2 (fun e => hx12.1 (UInt8.toNat_inj.1 (by show x.toNat = 120; omega)))
        have e2 : ((x.toNat : Int) != 102) = true := bne_iff_ne.2 (fun e => hx12.2 (UInt8.toNat_inj.1 (by show x.toNat = 102; omega)))
        clear hdr hx2 HN hxx hx12
        go_wp2_with fail
        go_roundg (s.size - (k + 1))
        case measure => rw [HG.out]; omega
        case rel => exact ⟨k + 1, acc, A', c', Lib.hid rfl, by omega, by go_num, rfl, by omega, HO, HN2, hb⟩
    · obtain rfl : k = s.size := by omega
      have HE := Lib.hid (HVS.out acc (HN.out.trans (by rw [show s.data.toList.drop s.size = [] from List.drop_eq_nil_of_le (by omega)]; exact Pl.nS_nil acc)))
      clear HN
      go_wp2_with fail
      go_ret2
      rw [HE.out]
      exact ⟨A', c', rfl, HO.out, by show acc.length ≤ 400; omega, hb⟩
end Go.Proofs.YtlcchafcgidpeaaGreatDoor
/-! Contracts: TextTerm, the reference's. -/

namespace Go.Proofs.YtlcchafcgidpeaaGreatDoor
open Go.RowKit
set_option linter.unusedVariables false
set_option linter.unusedSimpArgs false

def V_TextTerm (xs : List Int) (s : ByteArray) : List Int × Bool := if 400 < s.size then ([], false) else match Pl.readT xs s.data.toList with
  | some t => (t, true)
  | none => ([], false)
theorem V_TextTerm_long {xs : List Int} {s : ByteArray} (h : 400 < s.size) : V_TextTerm xs s = ([], false) := by unfold V_TextTerm; rw [if_pos h]
theorem V_TextTerm_none {xs : List Int} {s : ByteArray} (h : Pl.readT xs s.data.toList = none) : V_TextTerm xs s = ([], false) := by
  unfold V_TextTerm
  rw [h]
  split <;> rfl
theorem V_TextTerm_some {xs t : List Int} {s : ByteArray} (h4 : ¬ 400 < s.size) (h : Pl.readT xs s.data.toList = some t) : V_TextTerm xs s = (t, true) := by
  unfold V_TextTerm
  rw [h, if_neg h4]
theorem readT_no {xs : List Int} {l : List UInt8} (h : Pl.nS l [] = none) : Pl.readT xs l = none := by
  unfold Pl.readT
  rw [show Pl.numsS l.length l [] = none from h]
  rfl
theorem readT_bad {xs t : List Int} {l : List UInt8} (h : Pl.nS l [] = some t) (h2 : Pl.termOk xs t = false ∨ Pl.txt xs t 0 ≠ l) : Pl.readT xs l = none := by
  unfold Pl.readT
  rw [show Pl.numsS l.length l [] = some t from h]
  exact if_neg (by rintro ⟨h3, h4⟩; rcases h2 with h2 | h2 <;> simp_all)
theorem readT_yes {xs t : List Int} {l : List UInt8} (h : Pl.termOk xs t = true) (h2 : Pl.txt xs t 0 = l) : Pl.readT xs l = some t := Pl.readT_iff.2 ⟨h, h2⟩
theorem bytes_ne {a : List UInt8} {s : ByteArray} (h : ¬ (⟨a.toArray⟩ : ByteArray) = s) : a ≠ s.data.toList := by
  intro e
  apply h
  subst e
  cases s with | mk d => rfl
theorem bytes_eq {a : List UInt8} {s : ByteArray} (h : (⟨a.toArray⟩ : ByteArray) = s) : a = s.data.toList := by
  subst h
  rfl
theorem toList_ne {a b : ByteArray} (h : ¬ a = b) : (a.toList == b.toList) = false := by
  rw [ByteArray.toList_eq, ByteArray.toList_eq]
  simp only [beq_eq_false_iff_ne, ne_eq]
  exact fun e => h (Go.WideShapes.bytes_inj e)
set_option maxHeartbeats 2000000 in
set_option maxRecDepth 20000 in
theorem S_TextTerm (A : Option Addr) (n c : Nat) (xs : List Int) (s : ByteArray) (w : World) (h : RI w A n xs) (hn : n ≤ 1048576) (_ : s.size ≤ 1048576) :
    Calls Tryz.prog 23 #[.agg #[.slice A n c], .string s] w fun e w' => ∃ A' c', e = .returned (.tuple #[.slice A' (V_TextTerm xs s).1.length c', .bool (V_TextTerm xs s).2]) ∧ OI w' w.heap.size A' (V_TextTerm xs s).1.length c' (V_TextTerm xs s).1 ∧ Below w.heap.size w w' := by
  have hB0 : Below w.heap.size w (w.alloc (.cells #[.slice A n c] 26)) := (Below.refl _ _).alloc (Nat.le_refl _) _
  by_cases h4 : 400 < s.size
  · have HE := Lib.hid (V_TextTerm_long (xs := xs) h4)
    go_enter Tryz.func23, Tryz.ntmps23
    go_wp2_with fail
    go_ret2
    rw [HE.out]
    exact ⟨_, 0, rfl, (by have k_ := oi_emptyO hB0.size; rw [World.size_alloc] at k_; exact k_), hB0.alloc hB0.size _⟩
  have bx0 := Blk.new w 26 #[.slice A n c]
  have HNO := Lib.hid (fun h => V_TextTerm_none (xs := xs) (s := s) h)
  have HYE := Lib.hid (fun t h => V_TextTerm_some (xs := xs) (t := t) (s := s) h4 h)
  go_enter Tryz.func23, Tryz.ntmps23
  go_wp2_with fail
  generalize w.alloc (.cells #[.slice A n c] 26) = W0 at *
  have hs0 := hB0.size
  refine (l10Numbers_any s W0 (by omega)).mono ?_
  rintro e w1 ⟨A', c', rfl, hO, hl1, hb1⟩
  have bx1 := bx0.below hb1
  have hB1 := hB0.trans (hb1.mono hs0)
  have hs1 := hb1.size
  have r1 := (h.below hB0).below hb1
  have KX1 : ∀ i, w1.cell? ⟨w.heap.size, i, none⟩ = #[Value.slice A n c][i]? := fun i => bx1.cell i
  clear bx0 hb1 hB0
  cases hq : Pl.nS s.data.toList [] with
  | none =>
    rw [V_numsS_none hq] at hO hl1 ⊢
    have HE := Lib.hid (HNO.out (readT_no hq))
    clear hq hO HNO HYE
    go_wp2_with fail
    go_ret2
    rw [HE.out]
    exact ⟨_, 0, rfl, oi_emptyO (by omega), hB1.alloc (by omega) _⟩
  | some t =>
    rw [V_numsS_some hq] at hO hl1 ⊢
    have hl2 : t.length ≤ 400 := hl1
    have HO := Lib.hid hO
    have HQ := Lib.hid hq
    clear hq hO hl1
    go_wp2_with fail
    refine (specTermOk_any A n c xs A' t.length c' t w1 r1 HO.out.ri (by omega) (by omega)).mono ?_
    rintro e w2 ⟨rfl, hb2⟩
    have bx2 := bx1.below hb2
    have hB2 := hB1.trans (hb2.mono (by omega))
    have hs2 := hb2.size
    have r2 := r1.below hb2
    have HO2 := Lib.hid (HO.out.below hb2)
    have KX2 : ∀ i, w2.cell? ⟨w.heap.size, i, none⟩ = #[Value.slice A n c][i]? := fun i => bx2.cell i
    clear KX1 bx1 hb2 hB1 r1 HO
    cases hok : Pl.termOk xs t
    · have HE := Lib.hid (HNO.out (readT_bad HQ.out (Or.inl hok)))
      clear hok HNO HYE HQ
      go_wp2_with fail
      go_ret2
      rw [HE.out]
      exact ⟨_, 0, rfl, oi_emptyO (by omega), hB2.alloc (by omega) _⟩
    · have HV := Lib.hid (V_TermText_yes hok)
      have HOK := Lib.hid hok
      clear hok
      go_wp2_with fail
      refine (S_TermText A n c xs A' t.length c' t w2 r2 HO2.out.ri (by omega) (by omega)).mono ?_
      rintro e w3 ⟨rfl, hb3⟩
      rw [HV.out]
      have hB3 := hB2.trans (hb3.mono (by omega))
      have hs3 := hb3.size
      have HO3 := Lib.hid ((HO2.out.below hb3).base (B' := w.heap.size) (by omega))
      have HN2 := Lib.hid (fun hc => HNO.out (readT_bad HQ.out (Or.inr (bytes_ne hc))))
      have HY2 := Lib.hid (fun hc => HYE.out t (readT_yes HOK.out (bytes_eq hc)))
      clear KX2 bx2 hb3 hB2 r2 HO2 HNO HYE HQ HOK
      generalize (⟨(Pl.txt xs t 0).toArray⟩ : ByteArray) = Z at *
      by_cases hc : Z = s
      · have HE := Lib.hid (HY2.out hc)
        clear HN2 HY2
        subst hc
        go_wp2_with fail
        go_ret2
        rw [HE.out]
        exact ⟨A', c', rfl, HO3.out, hB3⟩
      · have HE := Lib.hid (HN2.out hc)
        have hz := toList_ne hc
        have hz2 : (!Z.toList == s.toList) = true := by rw [hz]; rfl
        clear HN2 HY2
        go_wp2_with fail
        go_ret2
        rw [HE.out]
        exact ⟨_, 0, rfl, oi_emptyO (by omega), hB3.alloc (by omega) _⟩
end Go.Proofs.YtlcchafcgidpeaaGreatDoor
/-! Contracts: a text parsed as a term, the program's. -/

namespace Go.Proofs.YtlcchafcgidpeaaGreatDoor
open Go.RowKit
set_option linter.unusedVariables false
set_option linter.unusedSimpArgs false

theorem readT_I (xs : List Int) (l : List UInt8) : Pl.readT xs l = Pl.termOf xs l (Pl.nI l []) := (Pl.readT_I xs l).symm
theorem readTI_no {xs : List Int} {l : List UInt8} (h : Pl.nI l [] = none) : Pl.readT xs l = none := by rw [readT_I, h]; rfl
theorem readTI_bad {xs t : List Int} {l : List UInt8} (h : Pl.nI l [] = some t) (h2 : Pl.termOk xs t = false ∨ Pl.txt xs t 0 ≠ l) : Pl.readT xs l = none := by
  rw [readT_I, h]
  exact if_neg (by rintro ⟨h3, h4⟩; rcases h2 with h2 | h2 <;> simp_all)
set_option maxHeartbeats 8000000 in
set_option maxRecDepth 20000 in
theorem parseTerm_any (A : Option Addr) (n c : Nat) (xs : List Int) (s : ByteArray) (w : World) (h : RI w A n xs) (hn : n ≤ 1048576) (hs : s.size ≤ 400) :
    Calls Tryz.prog 75 #[.agg #[.slice A n c], .string s] w fun e w' => ∃ A' ys c', e = .returned (.tuple #[.slice A' ys.length c', .bool (Pl.readT xs s.data.toList).isSome]) ∧ OI w' w.heap.size A' ys.length c' ys ∧ (∀ t, Pl.readT xs s.data.toList = some t → ys = t) ∧ ys.length ≤ 400 ∧ Below w.heap.size w w' := by
  obtain ⟨i0, hi, hz0, hz1, hz2⟩ := info_parts infoInt64
  have hl := size_len s
  have hB0 : Below w.heap.size w (w.alloc (.cells #[.slice A n c] 26)) := (Below.refl _ _).alloc (Nat.le_refl _) _
  have bx0 := Blk.new w 26 #[.slice A n c]
  have HVN := Lib.hid (fun h => readTI_no (xs := xs) (l := s.data.toList) h)
  have HR := Lib.hid h
  clear h
  go_enter Tryz.func75, Tryz.ntmps75
  go_wp2_with fail
  generalize w.alloc (.cells #[.slice A n c] 26) = W0 at *
  have hs0 := hB0.size
  go_loopg [6, 7] (s.size) (fun gg u i wr => ∃ (k : Nat) (acc : List Int) (A' : Option Addr) (c' : Nat), Hid (gg = s.size - k) ∧ k ≤ s.size ∧ i = .int .i64 k ∧ u = .slice A' acc.length c' ∧ acc.length ≤ k ∧ Hid (OI wr W0.heap.size A' acc.length c' acc) ∧ Hid (Pl.nI s.data.toList [] = Pl.nI (s.data.toList.drop k) acc) ∧ Below W0.heap.size W0 wr)
  case atStart => exact ⟨0, [], none, 0, Lib.hid rfl, Nat.zero_le _, rfl, rfl, by simp, Lib.hid (World.ownsRow_nil _ _ _ _), Lib.hid rfl, Below.refl _ _⟩
  case round =>
    obtain ⟨k, acc, A', c', HG, hk, rfl, rfl, ha, HO, HN, hb⟩ := hrel
    have hsr := hb.size
    by_cases hlt : k < s.size
    · obtain ⟨x, hx, hx2⟩ := byte_at (s := s) (k := k) hlt
      have hdr : s.data.toList.drop k = x :: s.data.toList.drop (k + 1) := by
        rw [List.drop_eq_getElem_cons (by omega), (List.getElem?_eq_some_iff.1 hx2).2]
      by_cases hsk : x = 40 ∨ x = 44 ∨ x = 41
      · have HN2 := Lib.hid ((HN.out.trans (congrArg (fun q => Pl.nI q acc) hdr)).trans (Pl.nI_skip hsk))
        have hxn : (x.toNat : Int) = 40 ∨ (x.toNat : Int) = 44 ∨ (x.toNat : Int) = 41 := by
          rcases hsk with h | h | h
          · left; subst h; rfl
          · right; left; subst h; rfl
          · right; right; subst h; rfl
        clear hdr hx2 HN hsk
        rcases hxn with hxn | hxn | hxn
        · go_wp2_with fail
          go_roundg (s.size - (k + 1))
          case measure => rw [HG.out]; omega
          case rel => exact ⟨k + 1, acc, A', c', Lib.hid rfl, by omega, by go_num, rfl, by omega, HO, HN2, hb⟩
        · go_wp2_with fail
          go_roundg (s.size - (k + 1))
          case measure => rw [HG.out]; omega
          case rel => exact ⟨k + 1, acc, A', c', Lib.hid rfl, by omega, by go_num, rfl, by omega, HO, HN2, hb⟩
        · go_wp2_with fail
          go_roundg (s.size - (k + 1))
          case measure => rw [HG.out]; omega
          case rel => exact ⟨k + 1, acc, A', c', Lib.hid rfl, by omega, by go_num, rfl, by omega, HO, HN2, hb⟩
      · have hn1 := fun a r hw => (HN.out.trans (congrArg (fun q => Pl.nI q acc) hdr)).trans (Pl.nI_num (acc := acc) (a := a) (r := r) hsk hw)
        have HNN := Lib.hid hn1
        clear hn1 hdr hx2 HN
        obtain ⟨xb, hxb⟩ : ∃ xb : Bool, xb = decide (x = 120) := ⟨_, rfl⟩
        by_cases hxx : x = 120 ∨ x = 102
        · have hxn : (xb = true ∧ (x.toNat : Int) = 120) ∨ (xb = false ∧ (x.toNat : Int) = 102) := by
            rcases hxx with h | h
            · left; subst h; exact ⟨by rw [hxb]; rfl, rfl⟩
            · right; subst h; exact ⟨by rw [hxb]; rfl, rfl⟩
          have HXB := Lib.hid hxb
          have HXC : Hid (¬ (x ≠ 120 ∧ x ≠ 102)) := Lib.hid (by rintro ⟨h1, h2⟩; rcases hxx with h | h <;> contradiction)
          clear hxb hxx hsk
          rcases hxn with ⟨rfl, hxn⟩ | ⟨rfl, hxn⟩
          · obtain ⟨f, hf⟩ : ∃ f : Nat, k + 1 = f := ⟨_, rfl⟩
            have HF : Hid (f = k + 1) := Lib.hid hf.symm
            have hf2 : (k : Int) + 1 = (f : Int) := by omega
            clear hf
            go_wp2_with fail
            go_loopg [9] (s.size - (k + 1)) (fun g2 i wz => ∃ (e : Nat), Hid (g2 = s.size - e) ∧ i = .int .i64 e ∧ f ≤ e ∧ e ≤ s.size ∧ Hid (((s.data.toList.drop (k + 1)).take (e - (k + 1))).all Pl.isDig = true) ∧ wz = wr)
            case atStart => exact ⟨f, Lib.hid (by rw [HF.out]), rfl, by omega, by have := HF.out; omega, Lib.hid (by rw [HF.out]; simp), rfl⟩
            case round =>
              rename World => wz
              obtain ⟨e, HG2, rfl, hfe, hes, HD, rfl⟩ := hrel
              have hkf : k < f := by have := HF.out; omega
              by_cases hle : e < s.size
              · obtain ⟨y, hy, hy2⟩ := byte_at (s := s) (k := e) hle
                have hy255 := y.toNat_lt
                by_cases hd : 48 ≤ y.toNat ∧ y.toNat ≤ 57
                · have HD2 : Hid (((s.data.toList.drop (k + 1)).take (e + 1 - (k + 1))).all Pl.isDig = true) := Lib.hid (by
                    rw [piece_snoc hy2 (by have := HF.out; omega), List.all_append, HD.out]
                    simp only [List.all_cons, List.all_nil, Bool.and_true, Bool.true_and]
                    exact decide_eq_true hd)
                  have hd1 : (48 : Int) ≤ (y.toNat : Int) := by omega
                  have hd2 : (y.toNat : Int) ≤ 57 := by omega
                  clear hy2 HD
                  go_wp2_with fail
                  go_roundg (s.size - (e + 1))
                  case measure => rw [HG2.out]; omega
                  case rel => exact ⟨e + 1, Lib.hid rfl, by go_num, by omega, by omega, HD2, rfl⟩
                · have HW := Lib.hid (Pl.while_at (r := s.data.toList.drop (k + 1)) (j := e - (k + 1)) HD.out (fun z hz => by
                    rw [List.getElem?_drop, show k + 1 + (e - (k + 1)) = e by have := HF.out; omega, hy2] at hz
                    injection hz with hz
                    subst hz
                    exact decide_eq_false hd))
                  clear hy2 HD
                  rcases (by omega : (y.toNat : Int) < 48 ∨ ((48 : Int) ≤ (y.toNat : Int) ∧ 57 < (y.toNat : Int))) with hd1 | ⟨hd1, hd2⟩
                  · have hd3 : ¬ (48 : Int) ≤ (y.toNat : Int) := by omega
                    obtain ⟨P, hP⟩ : ∃ P : ByteArray, Hid (P = s.extract f e) := ⟨_, Lib.hid rfl⟩
                    have hPe : s.extract f e = P := hP.out.symm
                    have hPd : P.data.toList = (s.data.toList.drop (k + 1)).take (e - (k + 1)) := by rw [hP.out, Go.Lib.extract_data, HF.out]
                    have HN3 := Lib.hid (HNN.out _ _ HW.out)
                    rw [← hPd, List.drop_drop, show k + 1 + (e - (k + 1)) = e by have := HF.out; omega] at HN3
                    have hPs : P.size ≤ 400 := by rw [← size_len, hPd, List.length_take]; omega
                    clear hPd HW HNN
                    go_wp2_with fail
                    refine (parseNum_any P _ (by omega)).mono ?_
                    rintro e1 w3 ⟨rfl, rfl⟩
                    have hv := rdV_bd (l := P.data.toList)
                    cases hq : rdB P.data.toList
                    · rw [rd_none hq] at HN3
                      have HE := Lib.hid (HVN.out HN3.out)
                      clear hq HN3 hv
                      go_wp2_with fail
                      go_ret2
                      rw [HE.out]
                      exact ⟨none, [], 0, rfl, World.ownsRow_nil _ _ _ _, (fun t ht => by cases ht), Nat.zero_le _, hB0.trans (hb.mono (by omega))⟩
                    · rw [rd_some hq] at HN3
                      obtain ⟨v, hv2⟩ : ∃ v, rdV P.data.toList = v := ⟨_, rfl⟩
                      rw [hv2] at hv HN3 ⊢
                      clear hv2 hq
                      have HN4 : Hid (Pl.nI s.data.toList [] = Pl.nI (s.data.toList.drop (e)) (acc ++ [-1 - v])) := Lib.hid (HN3.out.trans ((if_neg HXC.out).trans (by first | rw [if_pos (of_decide_eq_true HXB.out.symm)] | rw [if_neg (of_decide_eq_false HXB.out.symm)])))
                      have howa := Lib.hid (ownsRow_below HO.out ((Below.refl _ w3).alloc (Nat.le_refl _) (.cells #[.int .i64 (-1 - v)] 2)))
                      clear HN3
                      go_wp2_with (at_builtin; (refine wpList_append_any rfl _ _ 24 rfl W0.heap.size 2 i0 (.int .i64 0) 1 8 Tryz.underlying24 hi hz0 hz1 hz2 rfl (by omega) A' acc.length c' (acc.map (Value.int .i64)) rfl howa.out _ 1 _ [.int .i64 (-1 - v)] rfl (Src.new _ [.int .i64 (-1 - v)] _ 1 1 rfl (by simp [Value.oneCell'])) (by unfold maxLen; omega) (by omega) (by simp; omega) ?_; intro A2 c2 w2 ho2 hg hnil))
                      have hgb := app_below hg howa.out (by omega)
                      have hb3 := hb.trans (hgb.mono (by omega))
                      have HO3 : Hid (OI w2 W0.heap.size A2 (acc ++ [-1 - v]).length c2 (acc ++ [-1 - v])) := Lib.hid (OI.snoc ho2)
                      clear hgb howa ho2 hg HO hb
                      go_wp2_with fail
                      go_roundg (s.size - (e))
                      case measure => rw [HG.out]; have := HF.out; omega
                      case rel => exact ⟨e, acc ++ [-1 - v], A2, c2, Lib.hid rfl, by omega, by go_num, by simp, by simp; omega, HO3, HN4, hb3⟩
                  · have hd3 : ¬ (y.toNat : Int) ≤ 57 := by omega
                    obtain ⟨P, hP⟩ : ∃ P : ByteArray, Hid (P = s.extract f e) := ⟨_, Lib.hid rfl⟩
                    have hPe : s.extract f e = P := hP.out.symm
                    have hPd : P.data.toList = (s.data.toList.drop (k + 1)).take (e - (k + 1)) := by rw [hP.out, Go.Lib.extract_data, HF.out]
                    have HN3 := Lib.hid (HNN.out _ _ HW.out)
                    rw [← hPd, List.drop_drop, show k + 1 + (e - (k + 1)) = e by have := HF.out; omega] at HN3
                    have hPs : P.size ≤ 400 := by rw [← size_len, hPd, List.length_take]; omega
                    clear hPd HW HNN
                    go_wp2_with fail
                    refine (parseNum_any P _ (by omega)).mono ?_
                    rintro e1 w3 ⟨rfl, rfl⟩
                    have hv := rdV_bd (l := P.data.toList)
                    cases hq : rdB P.data.toList
                    · rw [rd_none hq] at HN3
                      have HE := Lib.hid (HVN.out HN3.out)
                      clear hq HN3 hv
                      go_wp2_with fail
                      go_ret2
                      rw [HE.out]
                      exact ⟨none, [], 0, rfl, World.ownsRow_nil _ _ _ _, (fun t ht => by cases ht), Nat.zero_le _, hB0.trans (hb.mono (by omega))⟩
                    · rw [rd_some hq] at HN3
                      obtain ⟨v, hv2⟩ : ∃ v, rdV P.data.toList = v := ⟨_, rfl⟩
                      rw [hv2] at hv HN3 ⊢
                      clear hv2 hq
                      have HN4 : Hid (Pl.nI s.data.toList [] = Pl.nI (s.data.toList.drop (e)) (acc ++ [-1 - v])) := Lib.hid (HN3.out.trans ((if_neg HXC.out).trans (by first | rw [if_pos (of_decide_eq_true HXB.out.symm)] | rw [if_neg (of_decide_eq_false HXB.out.symm)])))
                      have howa := Lib.hid (ownsRow_below HO.out ((Below.refl _ w3).alloc (Nat.le_refl _) (.cells #[.int .i64 (-1 - v)] 2)))
                      clear HN3
                      go_wp2_with (at_builtin; (refine wpList_append_any rfl _ _ 24 rfl W0.heap.size 2 i0 (.int .i64 0) 1 8 Tryz.underlying24 hi hz0 hz1 hz2 rfl (by omega) A' acc.length c' (acc.map (Value.int .i64)) rfl howa.out _ 1 _ [.int .i64 (-1 - v)] rfl (Src.new _ [.int .i64 (-1 - v)] _ 1 1 rfl (by simp [Value.oneCell'])) (by unfold maxLen; omega) (by omega) (by simp; omega) ?_; intro A2 c2 w2 ho2 hg hnil))
                      have hgb := app_below hg howa.out (by omega)
                      have hb3 := hb.trans (hgb.mono (by omega))
                      have HO3 : Hid (OI w2 W0.heap.size A2 (acc ++ [-1 - v]).length c2 (acc ++ [-1 - v])) := Lib.hid (OI.snoc ho2)
                      clear hgb howa ho2 hg HO hb
                      go_wp2_with fail
                      go_roundg (s.size - (e))
                      case measure => rw [HG.out]; have := HF.out; omega
                      case rel => exact ⟨e, acc ++ [-1 - v], A2, c2, Lib.hid rfl, by omega, by go_num, by simp, by simp; omega, HO3, HN4, hb3⟩
              · obtain rfl : e = s.size := by omega
                have HW := Lib.hid (Pl.while_at (r := s.data.toList.drop (k + 1)) (j := s.size - (k + 1)) HD.out (fun z hz => by
                  rw [List.getElem?_drop, List.getElem?_eq_none (by omega)] at hz
                  cases hz))
                clear HD
                have e := s.size
                have heq : s.size = s.size := rfl
                obtain ⟨P, hP⟩ : ∃ P : ByteArray, Hid (P = s.extract f s.size) := ⟨_, Lib.hid rfl⟩
                have hPe : s.extract f s.size = P := hP.out.symm
                have hPd : P.data.toList = (s.data.toList.drop (k + 1)).take (s.size - (k + 1)) := by rw [hP.out, Go.Lib.extract_data, HF.out]
                have HN3 := Lib.hid (HNN.out _ _ HW.out)
                rw [← hPd, List.drop_drop, show k + 1 + (s.size - (k + 1)) = s.size by have := HF.out; omega] at HN3
                have hPs : P.size ≤ 400 := by rw [← size_len, hPd, List.length_take]; omega
                clear hPd HW HNN e heq
                go_wp2_with fail
                refine (parseNum_any P _ (by omega)).mono ?_
                rintro e1 w3 ⟨rfl, rfl⟩
                have hv := rdV_bd (l := P.data.toList)
                cases hq : rdB P.data.toList
                · rw [rd_none hq] at HN3
                  have HE := Lib.hid (HVN.out HN3.out)
                  clear hq HN3 hv
                  go_wp2_with fail
                  go_ret2
                  rw [HE.out]
                  exact ⟨none, [], 0, rfl, World.ownsRow_nil _ _ _ _, (fun t ht => by cases ht), Nat.zero_le _, hB0.trans (hb.mono (by omega))⟩
                · rw [rd_some hq] at HN3
                  obtain ⟨v, hv2⟩ : ∃ v, rdV P.data.toList = v := ⟨_, rfl⟩
                  rw [hv2] at hv HN3 ⊢
                  clear hv2 hq
                  have HN4 : Hid (Pl.nI s.data.toList [] = Pl.nI (s.data.toList.drop (s.size)) (acc ++ [-1 - v])) := Lib.hid (HN3.out.trans ((if_neg HXC.out).trans (by first | rw [if_pos (of_decide_eq_true HXB.out.symm)] | rw [if_neg (of_decide_eq_false HXB.out.symm)])))
                  have howa := Lib.hid (ownsRow_below HO.out ((Below.refl _ w3).alloc (Nat.le_refl _) (.cells #[.int .i64 (-1 - v)] 2)))
                  clear HN3
                  go_wp2_with (at_builtin; (refine wpList_append_any rfl _ _ 24 rfl W0.heap.size 2 i0 (.int .i64 0) 1 8 Tryz.underlying24 hi hz0 hz1 hz2 rfl (by omega) A' acc.length c' (acc.map (Value.int .i64)) rfl howa.out _ 1 _ [.int .i64 (-1 - v)] rfl (Src.new _ [.int .i64 (-1 - v)] _ 1 1 rfl (by simp [Value.oneCell'])) (by unfold maxLen; omega) (by omega) (by simp; omega) ?_; intro A2 c2 w2 ho2 hg hnil))
                  have hgb := app_below hg howa.out (by omega)
                  have hb3 := hb.trans (hgb.mono (by omega))
                  have HO3 : Hid (OI w2 W0.heap.size A2 (acc ++ [-1 - v]).length c2 (acc ++ [-1 - v])) := Lib.hid (OI.snoc ho2)
                  clear hgb howa ho2 hg HO hb
                  go_wp2_with fail
                  go_roundg (s.size - (s.size))
                  case measure => rw [HG.out]; have := HF.out; omega
                  case rel => exact ⟨s.size, acc ++ [-1 - v], A2, c2, Lib.hid rfl, by omega, by go_num, by simp, by simp; omega, HO3, HN4, hb3⟩
          · obtain ⟨f, hf⟩ : ∃ f : Nat, k + 1 = f := ⟨_, rfl⟩
            have HF : Hid (f = k + 1) := Lib.hid hf.symm
            have hf2 : (k : Int) + 1 = (f : Int) := by omega
            clear hf
            go_wp2_with fail
            go_loopg [9] (s.size - (k + 1)) (fun g2 i wz => ∃ (e : Nat), Hid (g2 = s.size - e) ∧ i = .int .i64 e ∧ f ≤ e ∧ e ≤ s.size ∧ Hid (((s.data.toList.drop (k + 1)).take (e - (k + 1))).all Pl.isDig = true) ∧ wz = wr)
            case atStart => exact ⟨f, Lib.hid (by rw [HF.out]), rfl, by omega, by have := HF.out; omega, Lib.hid (by rw [HF.out]; simp), rfl⟩
            case round =>
              rename World => wz
              obtain ⟨e, HG2, rfl, hfe, hes, HD, rfl⟩ := hrel
              have hkf : k < f := by have := HF.out; omega
              by_cases hle : e < s.size
              · obtain ⟨y, hy, hy2⟩ := byte_at (s := s) (k := e) hle
                have hy255 := y.toNat_lt
                by_cases hd : 48 ≤ y.toNat ∧ y.toNat ≤ 57
                · have HD2 : Hid (((s.data.toList.drop (k + 1)).take (e + 1 - (k + 1))).all Pl.isDig = true) := Lib.hid (by
                    rw [piece_snoc hy2 (by have := HF.out; omega), List.all_append, HD.out]
                    simp only [List.all_cons, List.all_nil, Bool.and_true, Bool.true_and]
                    exact decide_eq_true hd)
                  have hd1 : (48 : Int) ≤ (y.toNat : Int) := by omega
                  have hd2 : (y.toNat : Int) ≤ 57 := by omega
                  clear hy2 HD
                  go_wp2_with fail
                  go_roundg (s.size - (e + 1))
                  case measure => rw [HG2.out]; omega
                  case rel => exact ⟨e + 1, Lib.hid rfl, by go_num, by omega, by omega, HD2, rfl⟩
                · have HW := Lib.hid (Pl.while_at (r := s.data.toList.drop (k + 1)) (j := e - (k + 1)) HD.out (fun z hz => by
                    rw [List.getElem?_drop, show k + 1 + (e - (k + 1)) = e by have := HF.out; omega, hy2] at hz
                    injection hz with hz
                    subst hz
                    exact decide_eq_false hd))
                  clear hy2 HD
                  rcases (by omega : (y.toNat : Int) < 48 ∨ ((48 : Int) ≤ (y.toNat : Int) ∧ 57 < (y.toNat : Int))) with hd1 | ⟨hd1, hd2⟩
                  · have hd3 : ¬ (48 : Int) ≤ (y.toNat : Int) := by omega
                    obtain ⟨P, hP⟩ : ∃ P : ByteArray, Hid (P = s.extract f e) := ⟨_, Lib.hid rfl⟩
                    have hPe : s.extract f e = P := hP.out.symm
                    have hPd : P.data.toList = (s.data.toList.drop (k + 1)).take (e - (k + 1)) := by rw [hP.out, Go.Lib.extract_data, HF.out]
                    have HN3 := Lib.hid (HNN.out _ _ HW.out)
                    rw [← hPd, List.drop_drop, show k + 1 + (e - (k + 1)) = e by have := HF.out; omega] at HN3
                    have hPs : P.size ≤ 400 := by rw [← size_len, hPd, List.length_take]; omega
                    clear hPd HW HNN
                    go_wp2_with fail
                    refine (parseNum_any P _ (by omega)).mono ?_
                    rintro e1 w3 ⟨rfl, rfl⟩
                    have hv := rdV_bd (l := P.data.toList)
                    cases hq : rdB P.data.toList
                    · rw [rd_none hq] at HN3
                      have HE := Lib.hid (HVN.out HN3.out)
                      clear hq HN3 hv
                      go_wp2_with fail
                      go_ret2
                      rw [HE.out]
                      exact ⟨none, [], 0, rfl, World.ownsRow_nil _ _ _ _, (fun t ht => by cases ht), Nat.zero_le _, hB0.trans (hb.mono (by omega))⟩
                    · rw [rd_some hq] at HN3
                      obtain ⟨v, hv2⟩ : ∃ v, rdV P.data.toList = v := ⟨_, rfl⟩
                      rw [hv2] at hv HN3 ⊢
                      clear hv2 hq
                      have HN4 : Hid (Pl.nI s.data.toList [] = Pl.nI (s.data.toList.drop (e)) (acc ++ [v])) := Lib.hid (HN3.out.trans ((if_neg HXC.out).trans (by first | rw [if_pos (of_decide_eq_true HXB.out.symm)] | rw [if_neg (of_decide_eq_false HXB.out.symm)])))
                      have howa := Lib.hid (ownsRow_below HO.out ((Below.refl _ w3).alloc (Nat.le_refl _) (.cells #[.int .i64 (v)] 2)))
                      clear HN3
                      go_wp2_with (at_builtin; (refine wpList_append_any rfl _ _ 24 rfl W0.heap.size 2 i0 (.int .i64 0) 1 8 Tryz.underlying24 hi hz0 hz1 hz2 rfl (by omega) A' acc.length c' (acc.map (Value.int .i64)) rfl howa.out _ 1 _ [.int .i64 (v)] rfl (Src.new _ [.int .i64 (v)] _ 1 1 rfl (by simp [Value.oneCell'])) (by unfold maxLen; omega) (by omega) (by simp; omega) ?_; intro A2 c2 w2 ho2 hg hnil))
                      have hgb := app_below hg howa.out (by omega)
                      have hb3 := hb.trans (hgb.mono (by omega))
                      have HO3 : Hid (OI w2 W0.heap.size A2 (acc ++ [v]).length c2 (acc ++ [v])) := Lib.hid (OI.snoc ho2)
                      clear hgb howa ho2 hg HO hb
                      go_wp2_with fail
                      go_roundg (s.size - (e))
                      case measure => rw [HG.out]; have := HF.out; omega
                      case rel => exact ⟨e, acc ++ [v], A2, c2, Lib.hid rfl, by omega, by go_num, by simp, by simp; omega, HO3, HN4, hb3⟩
                  · have hd3 : ¬ (y.toNat : Int) ≤ 57 := by omega
                    obtain ⟨P, hP⟩ : ∃ P : ByteArray, Hid (P = s.extract f e) := ⟨_, Lib.hid rfl⟩
                    have hPe : s.extract f e = P := hP.out.symm
                    have hPd : P.data.toList = (s.data.toList.drop (k + 1)).take (e - (k + 1)) := by rw [hP.out, Go.Lib.extract_data, HF.out]
                    have HN3 := Lib.hid (HNN.out _ _ HW.out)
                    rw [← hPd, List.drop_drop, show k + 1 + (e - (k + 1)) = e by have := HF.out; omega] at HN3
                    have hPs : P.size ≤ 400 := by rw [← size_len, hPd, List.length_take]; omega
                    clear hPd HW HNN
                    go_wp2_with fail
                    refine (parseNum_any P _ (by omega)).mono ?_
                    rintro e1 w3 ⟨rfl, rfl⟩
                    have hv := rdV_bd (l := P.data.toList)
                    cases hq : rdB P.data.toList
                    · rw [rd_none hq] at HN3
                      have HE := Lib.hid (HVN.out HN3.out)
                      clear hq HN3 hv
                      go_wp2_with fail
                      go_ret2
                      rw [HE.out]
                      exact ⟨none, [], 0, rfl, World.ownsRow_nil _ _ _ _, (fun t ht => by cases ht), Nat.zero_le _, hB0.trans (hb.mono (by omega))⟩
                    · rw [rd_some hq] at HN3
                      obtain ⟨v, hv2⟩ : ∃ v, rdV P.data.toList = v := ⟨_, rfl⟩
                      rw [hv2] at hv HN3 ⊢
                      clear hv2 hq
                      have HN4 : Hid (Pl.nI s.data.toList [] = Pl.nI (s.data.toList.drop (e)) (acc ++ [v])) := Lib.hid (HN3.out.trans ((if_neg HXC.out).trans (by first | rw [if_pos (of_decide_eq_true HXB.out.symm)] | rw [if_neg (of_decide_eq_false HXB.out.symm)])))
                      have howa := Lib.hid (ownsRow_below HO.out ((Below.refl _ w3).alloc (Nat.le_refl _) (.cells #[.int .i64 (v)] 2)))
                      clear HN3
                      go_wp2_with (at_builtin; (refine wpList_append_any rfl _ _ 24 rfl W0.heap.size 2 i0 (.int .i64 0) 1 8 Tryz.underlying24 hi hz0 hz1 hz2 rfl (by omega) A' acc.length c' (acc.map (Value.int .i64)) rfl howa.out _ 1 _ [.int .i64 (v)] rfl (Src.new _ [.int .i64 (v)] _ 1 1 rfl (by simp [Value.oneCell'])) (by unfold maxLen; omega) (by omega) (by simp; omega) ?_; intro A2 c2 w2 ho2 hg hnil))
                      have hgb := app_below hg howa.out (by omega)
                      have hb3 := hb.trans (hgb.mono (by omega))
                      have HO3 : Hid (OI w2 W0.heap.size A2 (acc ++ [v]).length c2 (acc ++ [v])) := Lib.hid (OI.snoc ho2)
                      clear hgb howa ho2 hg HO hb
                      go_wp2_with fail
                      go_roundg (s.size - (e))
                      case measure => rw [HG.out]; have := HF.out; omega
                      case rel => exact ⟨e, acc ++ [v], A2, c2, Lib.hid rfl, by omega, by go_num, by simp, by simp; omega, HO3, HN4, hb3⟩
              · obtain rfl : e = s.size := by omega
                have HW := Lib.hid (Pl.while_at (r := s.data.toList.drop (k + 1)) (j := s.size - (k + 1)) HD.out (fun z hz => by
                  rw [List.getElem?_drop, List.getElem?_eq_none (by omega)] at hz
                  cases hz))
                clear HD
                have e := s.size
                have heq : s.size = s.size := rfl
                obtain ⟨P, hP⟩ : ∃ P : ByteArray, Hid (P = s.extract f s.size) := ⟨_, Lib.hid rfl⟩
                have hPe : s.extract f s.size = P := hP.out.symm
                have hPd : P.data.toList = (s.data.toList.drop (k + 1)).take (s.size - (k + 1)) := by rw [hP.out, Go.Lib.extract_data, HF.out]
                have HN3 := Lib.hid (HNN.out _ _ HW.out)
                rw [← hPd, List.drop_drop, show k + 1 + (s.size - (k + 1)) = s.size by have := HF.out; omega] at HN3
                have hPs : P.size ≤ 400 := by rw [← size_len, hPd, List.length_take]; omega
                clear hPd HW HNN e heq
                go_wp2_with fail
                refine (parseNum_any P _ (by omega)).mono ?_
                rintro e1 w3 ⟨rfl, rfl⟩
                have hv := rdV_bd (l := P.data.toList)
                cases hq : rdB P.data.toList
                · rw [rd_none hq] at HN3
                  have HE := Lib.hid (HVN.out HN3.out)
                  clear hq HN3 hv
                  go_wp2_with fail
                  go_ret2
                  rw [HE.out]
                  exact ⟨none, [], 0, rfl, World.ownsRow_nil _ _ _ _, (fun t ht => by cases ht), Nat.zero_le _, hB0.trans (hb.mono (by omega))⟩
                · rw [rd_some hq] at HN3
                  obtain ⟨v, hv2⟩ : ∃ v, rdV P.data.toList = v := ⟨_, rfl⟩
                  rw [hv2] at hv HN3 ⊢
                  clear hv2 hq
                  have HN4 : Hid (Pl.nI s.data.toList [] = Pl.nI (s.data.toList.drop (s.size)) (acc ++ [v])) := Lib.hid (HN3.out.trans ((if_neg HXC.out).trans (by first | rw [if_pos (of_decide_eq_true HXB.out.symm)] | rw [if_neg (of_decide_eq_false HXB.out.symm)])))
                  have howa := Lib.hid (ownsRow_below HO.out ((Below.refl _ w3).alloc (Nat.le_refl _) (.cells #[.int .i64 (v)] 2)))
                  clear HN3
                  go_wp2_with (at_builtin; (refine wpList_append_any rfl _ _ 24 rfl W0.heap.size 2 i0 (.int .i64 0) 1 8 Tryz.underlying24 hi hz0 hz1 hz2 rfl (by omega) A' acc.length c' (acc.map (Value.int .i64)) rfl howa.out _ 1 _ [.int .i64 (v)] rfl (Src.new _ [.int .i64 (v)] _ 1 1 rfl (by simp [Value.oneCell'])) (by unfold maxLen; omega) (by omega) (by simp; omega) ?_; intro A2 c2 w2 ho2 hg hnil))
                  have hgb := app_below hg howa.out (by omega)
                  have hb3 := hb.trans (hgb.mono (by omega))
                  have HO3 : Hid (OI w2 W0.heap.size A2 (acc ++ [v]).length c2 (acc ++ [v])) := Lib.hid (OI.snoc ho2)
                  clear hgb howa ho2 hg HO hb
                  go_wp2_with fail
                  go_roundg (s.size - (s.size))
                  case measure => rw [HG.out]; have := HF.out; omega
                  case rel => exact ⟨s.size, acc ++ [v], A2, c2, Lib.hid rfl, by omega, by go_num, by simp, by simp; omega, HO3, HN4, hb3⟩
        · have HXC : Hid (x ≠ 120 ∧ x ≠ 102) := Lib.hid ⟨fun h => hxx (Or.inl h), fun h => hxx (Or.inr h)⟩
          have tn : ∀ m : UInt8, x ≠ m → ¬ (x.toNat : Int) = (m.toNat : Int) := fun m h e => h (UInt8.toNat_inj.1 (by omega))
          have e1 : ((x.toNat : Int) == 40) = false := beq_eq_false_iff_ne.2 (tn 40 (fun h => hsk (Or.inl h)))
          have e2 : ((x.toNat : Int) == 44) = false := beq_eq_false_iff_ne.2 (tn 44 (fun h => hsk (Or.inr (Or.inl h))))
          have e3 : ((x.toNat : Int) == 41) = false := beq_eq_false_iff_ne.2 (tn 41 (fun h => hsk (Or.inr (Or.inr h))))
          have e4 : ((x.toNat : Int) != 120) = true := bne_iff_ne.2 (tn 120 HXC.out.1)
          have e5 : ((x.toNat : Int) != 102) = true := bne_iff_ne.2 (tn 102 HXC.out.2)
          clear hsk hxx tn hxb
          obtain ⟨f, hf⟩ : ∃ f : Nat, k + 1 = f := ⟨_, rfl⟩
          have HF : Hid (f = k + 1) := Lib.hid hf.symm
          have hf2 : (k : Int) + 1 = (f : Int) := by omega
          clear hf
          go_wp2_with fail
          go_loopg [9] (s.size - (k + 1)) (fun g2 i wz => ∃ (e : Nat), Hid (g2 = s.size - e) ∧ i = .int .i64 e ∧ f ≤ e ∧ e ≤ s.size ∧ Hid (((s.data.toList.drop (k + 1)).take (e - (k + 1))).all Pl.isDig = true) ∧ wz = wr)
          case atStart => exact ⟨f, Lib.hid (by rw [HF.out]), rfl, by omega, by have := HF.out; omega, Lib.hid (by rw [HF.out]; simp), rfl⟩
          case round =>
            rename World => wz
            obtain ⟨e, HG2, rfl, hfe, hes, HD, rfl⟩ := hrel
            have hkf : k < f := by have := HF.out; omega
            by_cases hle : e < s.size
            · obtain ⟨y, hy, hy2⟩ := byte_at (s := s) (k := e) hle
              have hy255 := y.toNat_lt
              by_cases hd : 48 ≤ y.toNat ∧ y.toNat ≤ 57
              · have HD2 : Hid (((s.data.toList.drop (k + 1)).take (e + 1 - (k + 1))).all Pl.isDig = true) := Lib.hid (by
                  rw [piece_snoc hy2 (by have := HF.out; omega), List.all_append, HD.out]
                  simp only [List.all_cons, List.all_nil, Bool.and_true, Bool.true_and]
                  exact decide_eq_true hd)
                have hd1 : (48 : Int) ≤ (y.toNat : Int) := by omega
                have hd2 : (y.toNat : Int) ≤ 57 := by omega
                clear hy2 HD
                go_wp2_with fail
                go_roundg (s.size - (e + 1))
                case measure => rw [HG2.out]; omega
                case rel => exact ⟨e + 1, Lib.hid rfl, by go_num, by omega, by omega, HD2, rfl⟩
              · have HW := Lib.hid (Pl.while_at (r := s.data.toList.drop (k + 1)) (j := e - (k + 1)) HD.out (fun z hz => by
                  rw [List.getElem?_drop, show k + 1 + (e - (k + 1)) = e by have := HF.out; omega, hy2] at hz
                  injection hz with hz
                  subst hz
                  exact decide_eq_false hd))
                clear hy2 HD
                rcases (by omega : (y.toNat : Int) < 48 ∨ ((48 : Int) ≤ (y.toNat : Int) ∧ 57 < (y.toNat : Int))) with hd1 | ⟨hd1, hd2⟩
                · have hd3 : ¬ (48 : Int) ≤ (y.toNat : Int) := by omega
                  obtain ⟨P, hP⟩ : ∃ P : ByteArray, Hid (P = s.extract f e) := ⟨_, Lib.hid rfl⟩
                  have hPe : s.extract f e = P := hP.out.symm
                  have hPd : P.data.toList = (s.data.toList.drop (k + 1)).take (e - (k + 1)) := by rw [hP.out, Go.Lib.extract_data, HF.out]
                  have HN3 := Lib.hid (HNN.out _ _ HW.out)
                  rw [← hPd, List.drop_drop, show k + 1 + (e - (k + 1)) = e by have := HF.out; omega] at HN3
                  have hPs : P.size ≤ 400 := by rw [← size_len, hPd, List.length_take]; omega
                  clear hPd HW HNN
                  go_wp2_with fail
                  refine (parseNum_any P _ (by omega)).mono ?_
                  rintro e1 w3 ⟨rfl, rfl⟩
                  have hv := rdV_bd (l := P.data.toList)
                  have HE := Lib.hid (HVN.out (HN3.out.trans (by cases Pl.readN P.data.toList with
                    | none => rfl
                    | some n => exact if_pos HXC.out)))
                  clear HN3
                  cases hq : rdB P.data.toList
                  · clear hq
                    go_wp2_with fail
                    go_ret2
                    rw [HE.out]
                    exact ⟨none, [], 0, rfl, World.ownsRow_nil _ _ _ _, (fun t ht => by cases ht), Nat.zero_le _, hB0.trans (hb.mono (by omega))⟩
                  · clear hq
                    go_wp2_with fail
                    go_ret2
                    rw [HE.out]
                    exact ⟨none, [], 0, rfl, World.ownsRow_nil _ _ _ _, (fun t ht => by cases ht), Nat.zero_le _, hB0.trans (hb.mono (by omega))⟩
                · have hd3 : ¬ (y.toNat : Int) ≤ 57 := by omega
                  obtain ⟨P, hP⟩ : ∃ P : ByteArray, Hid (P = s.extract f e) := ⟨_, Lib.hid rfl⟩
                  have hPe : s.extract f e = P := hP.out.symm
                  have hPd : P.data.toList = (s.data.toList.drop (k + 1)).take (e - (k + 1)) := by rw [hP.out, Go.Lib.extract_data, HF.out]
                  have HN3 := Lib.hid (HNN.out _ _ HW.out)
                  rw [← hPd, List.drop_drop, show k + 1 + (e - (k + 1)) = e by have := HF.out; omega] at HN3
                  have hPs : P.size ≤ 400 := by rw [← size_len, hPd, List.length_take]; omega
                  clear hPd HW HNN
                  go_wp2_with fail
                  refine (parseNum_any P _ (by omega)).mono ?_
                  rintro e1 w3 ⟨rfl, rfl⟩
                  have hv := rdV_bd (l := P.data.toList)
                  have HE := Lib.hid (HVN.out (HN3.out.trans (by cases Pl.readN P.data.toList with
                    | none => rfl
                    | some n => exact if_pos HXC.out)))
                  clear HN3
                  cases hq : rdB P.data.toList
                  · clear hq
                    go_wp2_with fail
                    go_ret2
                    rw [HE.out]
                    exact ⟨none, [], 0, rfl, World.ownsRow_nil _ _ _ _, (fun t ht => by cases ht), Nat.zero_le _, hB0.trans (hb.mono (by omega))⟩
                  · clear hq
                    go_wp2_with fail
                    go_ret2
                    rw [HE.out]
                    exact ⟨none, [], 0, rfl, World.ownsRow_nil _ _ _ _, (fun t ht => by cases ht), Nat.zero_le _, hB0.trans (hb.mono (by omega))⟩
            · obtain rfl : e = s.size := by omega
              have HW := Lib.hid (Pl.while_at (r := s.data.toList.drop (k + 1)) (j := s.size - (k + 1)) HD.out (fun z hz => by
                rw [List.getElem?_drop, List.getElem?_eq_none (by omega)] at hz
                cases hz))
              clear HD
              have e := s.size
              have heq : s.size = s.size := rfl
              obtain ⟨P, hP⟩ : ∃ P : ByteArray, Hid (P = s.extract f s.size) := ⟨_, Lib.hid rfl⟩
              have hPe : s.extract f s.size = P := hP.out.symm
              have hPd : P.data.toList = (s.data.toList.drop (k + 1)).take (s.size - (k + 1)) := by rw [hP.out, Go.Lib.extract_data, HF.out]
              have HN3 := Lib.hid (HNN.out _ _ HW.out)
              rw [← hPd, List.drop_drop, show k + 1 + (s.size - (k + 1)) = s.size by have := HF.out; omega] at HN3
              have hPs : P.size ≤ 400 := by rw [← size_len, hPd, List.length_take]; omega
              clear hPd HW HNN e heq
              go_wp2_with fail
              refine (parseNum_any P _ (by omega)).mono ?_
              rintro e1 w3 ⟨rfl, rfl⟩
              have hv := rdV_bd (l := P.data.toList)
              have HE := Lib.hid (HVN.out (HN3.out.trans (by cases Pl.readN P.data.toList with
                | none => rfl
                | some n => exact if_pos HXC.out)))
              clear HN3
              cases hq : rdB P.data.toList
              · clear hq
                go_wp2_with fail
                go_ret2
                rw [HE.out]
                exact ⟨none, [], 0, rfl, World.ownsRow_nil _ _ _ _, (fun t ht => by cases ht), Nat.zero_le _, hB0.trans (hb.mono (by omega))⟩
              · clear hq
                go_wp2_with fail
                go_ret2
                rw [HE.out]
                exact ⟨none, [], 0, rfl, World.ownsRow_nil _ _ _ _, (fun t ht => by cases ht), Nat.zero_le _, hB0.trans (hb.mono (by omega))⟩
    · obtain rfl : k = s.size := by omega
      have HNE := Lib.hid (HN.out.trans (by rw [show s.data.toList.drop s.size = [] from List.drop_eq_nil_of_le (by omega)]))
      have bx1 := bx0.below hb
      have r1 := (HR.out.below hB0).below hb
      have hB1 := hB0.trans (hb.mono hs0)
      have KX1 : ∀ i, wr.cell? ⟨w.heap.size, i, none⟩ = #[Value.slice A n c][i]? := fun i => bx1.cell i
      have hal : acc.length ≤ 400 := by omega
      clear HN hb bx0 hB0
      go_wp2_with fail
      refine (implTermOk_any A n c xs A' acc.length c' acc wr r1 HO.out.ri (by omega) (by omega)).mono ?_
      rintro e w2 ⟨rfl, hb2⟩
      have bx2 := bx1.below hb2
      have hB2 := hB1.trans (hb2.mono (by omega))
      have hs2 := hb2.size
      have r2 := r1.below hb2
      have HO2 := Lib.hid (HO.out.below hb2)
      have KX2 : ∀ i, w2.cell? ⟨w.heap.size, i, none⟩ = #[Value.slice A n c][i]? := fun i => bx2.cell i
      clear KX1 bx1 hb2 hB1 r1 HO
      cases hok : Pl.termOk xs acc
      · have HE := Lib.hid (readTI_bad HNE.out (Or.inl hok))
        clear hok
        go_wp2_with fail
        go_ret2
        rw [HE.out]
        exact ⟨A', acc, c', rfl, HO2.out.base (by omega), (fun t ht => by cases ht), hal, hB2⟩
      · have HOK := Lib.hid hok
        clear hok
        go_wp2_with fail
        refine (text_any A n c xs A' acc.length c' acc w2 r2 HO2.out.ri HOK.out (by omega) (by omega)).mono ?_
        rintro e w3 ⟨rfl, hb3⟩
        have hB3 := hB2.trans (hb3.mono (by omega))
        have hs3 := hb3.size
        have HO3 := Lib.hid ((HO2.out.below hb3).base (B' := w.heap.size) (by omega))
        have HN2 := Lib.hid (fun hc => readTI_bad (xs := xs) HNE.out (Or.inr (bytes_ne hc)))
        have HY2 := Lib.hid (fun hc => readT_yes HOK.out (bytes_eq (s := s) hc))
        clear KX2 bx2 hb3 hB2 r2 HO2 HOK HNE
        generalize (⟨(Pl.txt xs acc 0).toArray⟩ : ByteArray) = Z at *
        by_cases hc : Z = s
        · have HE := Lib.hid (HY2.out hc)
          have hz : (Z.toList == s.toList) = true := by rw [hc]; exact beq_self_eq_true _
          clear HN2 HY2 hc
          go_wp2_with fail
          go_ret2
          rw [HE.out]
          exact ⟨A', acc, c', rfl, HO3.out, (fun t ht => by injection ht), hal, hB3⟩
        · have HE := Lib.hid (HN2.out hc)
          have hz := toList_ne hc
          clear HN2 HY2
          go_wp2_with fail
          go_ret2
          rw [HE.out]
          exact ⟨A', acc, c', rfl, HO3.out, (fun t ht => by cases ht), hal, hB3⟩
end Go.Proofs.YtlcchafcgidpeaaGreatDoor
/-! Contracts: TextTerm, the program's. -/

namespace Go.Proofs.YtlcchafcgidpeaaGreatDoor
open Go.RowKit
set_option linter.unusedVariables false
set_option linter.unusedSimpArgs false

theorem readT_len {xs t : List Int} {l : List UInt8} (h : Pl.readT xs l = some t) : t.length ≤ 60 := (Pl.termOk_iff.1 (Pl.readT_iff.1 h).1).2.1.2
theorem bd_TextTerm (xs : List Int) (s : ByteArray) : (V_TextTerm xs s).1.length ≤ 60 := by
  unfold V_TextTerm
  split
  · simp
  · cases h : Pl.readT xs s.data.toList with
    | none => simp
    | some t => exact readT_len h
end Go.Proofs.YtlcchafcgidpeaaGreatDoor
