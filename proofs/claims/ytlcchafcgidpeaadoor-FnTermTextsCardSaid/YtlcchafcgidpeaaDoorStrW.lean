/- Contracts: rows of words. -/
import Derived.Test.YtlcchafcgidpeaaDoorStr
import Derived.Test.YtlcchafcgidpeaaDoorSig
namespace Go.Proofs.YtlcchafcgidpeaaDoor
open Go.RowKit
open Go.Lib (decDigits)
set_option linter.unusedVariables false
set_option linter.unusedSimpArgs false

def sv (l : List UInt8) : Value := .string ⟨l.toArray⟩
theorem sv_of (s : ByteArray) : sv s.data.toList = .string s := by simp [sv]
theorem svs_oneCell (W : List (List UInt8)) : ∀ u ∈ W.map sv, u.oneCell' = true := by
  intro u hu
  obtain ⟨l, _, rfl⟩ := List.mem_map.1 hu
  rfl
/-- A row of words that reads as W. -/
def WI (w : World) (A : Option Addr) (n : Nat) (W : List (List UInt8)) : Prop :=
  W.length = n ∧ (0 < n → ∃ g off, A = some ⟨g, off, none⟩ ∧ ∀ k, k < n → w.cell? ⟨g, off + k, none⟩ = some (sv (W.getD k [])))
/-- A row of words that the call itself made. -/
def WO (w : World) (B : Nat) (A : Option Addr) (n c : Nat) (W : List (List UInt8)) : Prop := w.ownsRow B 9 1 (.slice A n c) n (W.map sv)
theorem WI.at_ {w : World} {A : Option Addr} {n : Nat} {W : List (List UInt8)} (h : WI w A n W) {k : Nat} (hk : k < n) : ∃ g off x, A = some ⟨g, off, none⟩ ∧ w.cell? ⟨g, off + k, none⟩ = some (.string ⟨x.toArray⟩) ∧ Hid (x = W.getD k []) := by
  obtain ⟨g, off, hA, hc⟩ := h.2 (by omega)
  exact ⟨g, off, _, hA, hc k hk, rfl⟩
theorem WI.below {w w' : World} {A : Option Addr} {n : Nat} {W : List (List UInt8)} (h : WI w A n W) (hb : Below w.heap.size w w') : WI w' A n W := by
  refine ⟨h.1, fun hn => ?_⟩
  obtain ⟨g, off, hA, hc⟩ := h.2 hn
  exact ⟨g, off, hA, fun k hk => (hb.cell (World.block_lt_of_cell? w _ (hc k hk))).trans (hc k hk)⟩
theorem WO.wi {w : World} {B : Nat} {A : Option Addr} {n c : Nat} {W : List (List UInt8)} (h : WO w B A n c W) : WI w A n W := by
  have hl := h.1
  rw [List.length_map, Nat.mul_one] at hl
  refine ⟨hl, fun hn => ?_⟩
  have h' := h
  rcases h'.2 with ⟨_, h0⟩ | ⟨g, cap, cur, hv, hB, _⟩
  · omega
  · simp only [Value.slice.injEq] at hv
    obtain ⟨rfl, _, rfl⟩ := hv
    refine ⟨g, 0, rfl, fun k hk => ?_⟩
    rw [Nat.zero_add, h.cellAt k (by omega), List.getElem?_map, List.getElem?_eq_getElem (by omega), Option.map_some]
    simp [List.getD_eq_getElem?_getD, show k < W.length by omega]
theorem WO.below {w w' : World} {B : Nat} {A : Option Addr} {n c : Nat} {W : List (List UInt8)} (h : WO w B A n c W) (hb : Below w.heap.size w w') : WO w' B A n c W := ownsRow_below h hb
theorem WO.base {w : World} {B B' : Nat} {A : Option Addr} {n c : Nat} {W : List (List UInt8)} (h : WO w B A n c W) (hB : B' ≤ B) : WO w B' A n c W := ownsRow_base h hB
theorem WO.nil (w : World) (B : Nat) : WO w B none 0 0 [] := World.ownsRow_nil w B _ _
theorem WO.snoc {w : World} {B : Nat} {A : Option Addr} {c : Nat} {W : List (List UInt8)} {x : List UInt8} (h : w.ownsRow B 9 1 (.slice A (W.length + 1) c) (W.length + 1) (W.map sv ++ [sv x])) : WO w B A (W ++ [x]).length c (W ++ [x]) := by
  rw [List.length_append]; unfold WO; rw [List.map_append]; exact h
/-- An empty slice that the call has just laid. -/
theorem WO.empty (w : World) : WO (w.alloc (.cells #[] 9)) w.heap.size (some ⟨w.heap.size, 0, none⟩) 0 0 [] :=
  ⟨rfl, Or.inr ⟨w.heap.size, 0, #[], rfl, Nat.le_refl _, Blk.new w 9 #[], Nat.le_refl _, by unfold maxLen; omega, by simp, by simp⟩⟩
theorem infoString : (Tryd.prog.info? 9).map (fun i => (i.zero, i.size, i.bytes)) = some (some (.string ⟨#[]⟩), 1, 16) := by kernel_rfl

/-- The piece between two places. -/
theorem piece_nil (l : List UInt8) (k : Nat) : (l.drop k).take (k - k) = [] := by simp
theorem piece_snoc {l : List UInt8} {f k : Nat} {x : UInt8} (h : l[k]? = some x) (hf : f ≤ k) : (l.drop f).take (k + 1 - f) = (l.drop f).take (k - f) ++ [x] := by
  have hk : k < l.length := (List.getElem?_eq_some_iff.1 h).1
  have hx : l[k] = x := (List.getElem?_eq_some_iff.1 h).2
  rw [show k + 1 - f = (k - f) + 1 by omega, List.take_succ_eq_append_getElem (by rw [List.length_drop]; omega), List.getElem_drop]
  congr 2
  rw [← hx]
  congr 1
  omega
set_option maxHeartbeats 4000000 in
set_option maxRecDepth 20000 in
theorem l1Split_any (s : ByteArray) (b : UInt8) (w : World) (hs : s.size ≤ 1048576) :
    Calls Tryd.prog 47 #[.string s, .int .u8 b.toNat] w fun e w' => ∃ A' c', e = .returned (.slice A' (Pl.words b s.data.toList).length c') ∧ WO w' w.heap.size A' (Pl.words b s.data.toList).length c' (Pl.words b s.data.toList) ∧ Below w.heap.size w w' := by
  obtain ⟨i0, hi, hz0, hz1, hz2⟩ := info_parts infoString
  have hl := size_len s
  have hO := Lib.hid (WO.empty w)
  have hB0 : Below w.heap.size w (w.alloc (.cells #[] 9)) := (Below.refl _ _).alloc (Nat.le_refl _) _
  go_enter Tryd.func47, Tryd.ntmps47
  go_wp2_with fail
  generalize w.alloc (.cells #[] 9) = W0 at *
  go_loopw [5, 6, 7] (fun u f i wr => ∃ (done : List (List UInt8)) (A : Option Addr) (c p k : Nat), i = .int .i64 k ∧ f = .int .i64 p ∧ u = .slice A done.length c ∧ k ≤ s.size + 1 ∧ p ≤ k ∧ done.length ≤ k ∧ Hid (WO wr w.heap.size A done.length c done) ∧ Hid (k ≤ s.size → Pl.words b s.data.toList = done ++ Pl.ahead ((s.data.toList.drop p).take (k - p)) (Pl.words b (s.data.toList.drop k))) ∧ Hid (k = s.size + 1 → Pl.words b s.data.toList = done) ∧ Below w.heap.size w wr) (fun _ _ i _ => s.size + 1 - (intOf i).toNat)
  case atStart => exact ⟨[], _, _, 0, 0, rfl, rfl, rfl, by omega, by omega, by simp, hO, Lib.hid fun _ => by simp [Pl.ahead_nil], Lib.hid fun h => by omega, hB0⟩
  case round =>
    obtain ⟨done, A, c, p, k, rfl, rfl, rfl, hk, hp, hd, HO, HW, HE, hb⟩ := hrel
    have hsr := hb.size
    by_cases hlt : k ≤ s.size
    · have hex := Go.Lib.extract_data s p k
      by_cases hke : k = s.size
      · subst hke
        have HW2 : Hid (Pl.words b s.data.toList = done ++ [(s.extract p s.size).data.toList]) := Lib.hid (by
          have := HW.out (Nat.le_refl _)
          rw [show s.data.toList.drop s.size = [] from List.drop_eq_nil_of_le (by omega), ← hex] at this
          rw [this]
          simp only [Pl.words, Pl.ahead, List.append_nil])
        clear hex HW HE
        have howa := Lib.hid (ownsRow_below (HO).out ((Below.refl _ (wr)).alloc (Nat.le_refl _) (.cells #[.string (s.extract p s.size)] 9)))
        go_wp2_with (at_builtin; refine wpList_append_any rfl _ _ 69 rfl (w.heap.size) 9 i0 (.string ⟨#[]⟩) 1 16 Tryd.underlying69 hi hz0 hz1 hz2 rfl (by omega) (A) (done).length (c) ((done).map sv) rfl howa.out _ 1 _ [.string (s.extract p s.size)] rfl (Src.new _ [.string (s.extract p s.size)] _ 1 1 rfl (by simp [Value.oneCell'])) (by unfold maxLen; omega) (by omega) (by simp; omega) ?_; intro A2 c2 w2 ho2 hg hnil; have hgb := app_below hg howa.out (by omega); have HO2 : Hid (WO w2 (w.heap.size) A2 ((done).length + 1) c2 ((done) ++ [ByteArray.data (s.extract p s.size) |>.toList])) := Lib.hid (by have e := WO.snoc (x := (ByteArray.data (s.extract p s.size)).toList) (by rw [sv_of]; exact ho2); rwa [List.length_append] at e))
        clear howa ho2 hg hnil
        have hb2 := hb.trans (hgb.mono (by omega))
        go_wp2_with fail
        go_roundw
        case rel => exact ⟨done ++ [(s.extract p s.size).data.toList], A2, c2, s.size + 1, s.size + 1, by go_num, by go_num, by simp, by omega, by omega, by simp; omega, by rw [List.length_append]; exact HO2, Lib.hid fun h => by omega, Lib.hid fun _ => HW2.out, hb2⟩
        case measure => simp [intOf] <;> omega
      · obtain ⟨x, hx, hx2⟩ := byte_at (s := s) (k := k) (by omega)
        have hdr : s.data.toList.drop k = x :: s.data.toList.drop (k + 1) := by
          rw [List.drop_eq_getElem_cons (by omega), (List.getElem?_eq_some_iff.1 hx2).2]
        by_cases hxb : x = b
        · subst hxb
          have HW2 := Lib.hid (by
            have := HW.out hlt
            rw [hdr, Pl.words_cut, ← hex] at this
            exact this)
          clear hex HW HE hdr hx2
          have howa := Lib.hid (ownsRow_below (HO).out ((Below.refl _ (wr)).alloc (Nat.le_refl _) (.cells #[.string (s.extract p k)] 9)))
          go_wp2_with (at_builtin; refine wpList_append_any rfl _ _ 69 rfl (w.heap.size) 9 i0 (.string ⟨#[]⟩) 1 16 Tryd.underlying69 hi hz0 hz1 hz2 rfl (by omega) (A) (done).length (c) ((done).map sv) rfl howa.out _ 1 _ [.string (s.extract p k)] rfl (Src.new _ [.string (s.extract p k)] _ 1 1 rfl (by simp [Value.oneCell'])) (by unfold maxLen; omega) (by omega) (by simp; omega) ?_; intro A2 c2 w2 ho2 hg hnil; have hgb := app_below hg howa.out (by omega); have HO2 : Hid (WO w2 (w.heap.size) A2 ((done).length + 1) c2 ((done) ++ [ByteArray.data (s.extract p k) |>.toList])) := Lib.hid (by have e := WO.snoc (x := (ByteArray.data (s.extract p k)).toList) (by rw [sv_of]; exact ho2); rwa [List.length_append] at e))
          clear howa ho2 hg hnil
          have hb2 := hb.trans (hgb.mono (by omega))
          go_wp2_with fail
          go_roundw
          case rel => exact ⟨done ++ [(s.extract p k).data.toList], A2, c2, k + 1, k + 1, by go_num, by go_num, by simp, by omega, by omega, by simp; omega, by rw [List.length_append]; exact HO2, Lib.hid fun h => by rw [HW2.out, piece_nil, Pl.ahead_nil]; simp, Lib.hid fun h => by omega, hb2⟩
          case measure => simp [intOf]; omega
        · have hne : ((x.toNat : Int) == (b.toNat : Int)) = false := by
            simp only [beq_eq_false_iff_ne, ne_eq]
            intro e
            exact hxb (UInt8.toNat_inj.1 (by omega))
          have HW2 := Lib.hid (by
            have := HW.out hlt
            rw [hdr, Pl.words_step hxb, ← piece_snoc hx2 hp] at this
            exact this)
          clear hex HW HE hdr hx2
          go_wp2_with fail
          go_roundw
          case rel => exact ⟨done, A, c, p, k + 1, by go_num, rfl, rfl, by omega, by omega, by omega, HO, Lib.hid fun h => HW2.out, Lib.hid fun h => by omega, hb⟩
          case measure => simp [intOf]; omega
    · obtain rfl : k = s.size + 1 := by omega
      have HE2 := Lib.hid (HE.out rfl)
      clear HW HE
      go_wp2_with fail
      go_ret
      rw [HE2.out]
      exact ⟨_, _, rfl, HO.out, hb⟩
end Go.Proofs.YtlcchafcgidpeaaDoor
