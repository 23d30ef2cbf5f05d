/- Contracts: rows of words. -/
import Derived.Test.YtlcchafcgidpeaaGreatDoorStr
import Derived.Test.YtlcchafcgidpeaaGreatDoorSig
import Derived.Test.YtlcchafcgidpeaaGreatDoorShelf
namespace Go.Proofs.YtlcchafcgidpeaaGreatDoor
open Go.RowKit
open Go.Lib (decDigits)
set_option linter.unusedVariables false
set_option linter.unusedSimpArgs false

def sv (l : List UInt8) : Value := .string ⟨l.toArray⟩
theorem sv_of (s : ByteArray) : sv s.data.toList = .string s := by simp [sv]
theorem svs_oneCell (W : List (List UInt8)) : ∀ u ∈ W.map sv, u.oneCell' = true := by
  intro u hu
  obtain ⟨l, _, rfl⟩ := List.mem_map.1 hu
  rfl
/-- A row of words that reads as W. -/
def WI (w : World) (A : Option Addr) (n : Nat) (W : List (List UInt8)) : Prop :=
  W.length = n ∧ (0 < n → ∃ g off, A = some ⟨g, off, none⟩ ∧ ∀ k, k < n → w.cell? ⟨g, off + k, none⟩ = some (sv (W.getD k [])))
/-- A row of words that the call itself made. -/
def WO (w : World) (B : Nat) (A : Option Addr) (n c : Nat) (W : List (List UInt8)) : Prop := w.ownsRow B 9 1 (.slice A n c) n (W.map sv)
theorem WI.at_ {w : World} {A : Option Addr} {n : Nat} {W : List (List UInt8)} (h : WI w A n W) {k : Nat} (hk : k < n) : ∃ g off x, A = some ⟨g, off, none⟩ ∧ w.cell? ⟨g, off + k, none⟩ = some (.string ⟨x.toArray⟩) ∧ Hid (x = W.getD k []) := by
  obtain ⟨g, off, hA, hc⟩ := h.2 (by omega)
  exact ⟨g, off, _, hA, hc k hk, rfl⟩
theorem WI.below {w w' : World} {A : Option Addr} {n : Nat} {W : List (List UInt8)} (h : WI w A n W) (hb : Below w.heap.size w w') : WI w' A n W := by
  refine ⟨h.1, fun hn => ?_⟩
  obtain ⟨g, off, hA, hc⟩ := h.2 hn
  exact ⟨g, off, hA, fun k hk => (hb.cell (World.block_lt_of_cell? w _ (hc k hk))).trans (hc k hk)⟩
theorem WO.wi {w : World} {B : Nat} {A : Option Addr} {n c : Nat} {W : List (List UInt8)} (h : WO w B A n c W) : WI w A n W := by
  have hl := h.1
  rw [List.length_map, Nat.mul_one] at hl
  refine ⟨hl, fun hn => ?_⟩
  have h' := h
  rcases h'.2 with ⟨_, h0⟩ | ⟨g, cap, cur, hv, hB, _⟩
  · omega
  · simp only [Value.slice.injEq] at hv
    obtain ⟨rfl, _, rfl⟩ := hv
    refine ⟨g, 0, rfl, fun k hk => ?_⟩
    rw [Nat.zero_add, h.cellAt k (by omega), List.getElem?_map, List.getElem?_eq_getElem (by omega), Option.map_some]
    simp [List.getD_eq_getElem?_getD, show k < W.length by omega]
theorem WO.below {w w' : World} {B : Nat} {A : Option Addr} {n c : Nat} {W : List (List UInt8)} (h : WO w B A n c W) (hb : Below w.heap.size w w') : WO w' B A n c W := ownsRow_below h hb
theorem WO.base {w : World} {B B' : Nat} {A : Option Addr} {n c : Nat} {W : List (List UInt8)} (h : WO w B A n c W) (hB : B' ≤ B) : WO w B' A n c W := ownsRow_base h hB
theorem WO.nil (w : World) (B : Nat) : WO w B none 0 0 [] := World.ownsRow_nil w B _ _
theorem WO.snoc {w : World} {B : Nat} {A : Option Addr} {c : Nat} {W : List (List UInt8)} {x : List UInt8} (h : w.ownsRow B 9 1 (.slice A (W.length + 1) c) (W.length + 1) (W.map sv ++ [sv x])) : WO w B A (W ++ [x]).length c (W ++ [x]) := by
  rw [List.length_append]; unfold WO; rw [List.map_append]; exact h
/-- An empty slice that the call has just laid. -/
theorem WO.empty (w : World) : WO (w.alloc (.cells #[] 9)) w.heap.size (some ⟨w.heap.size, 0, none⟩) 0 0 [] :=
  ⟨rfl, Or.inr ⟨w.heap.size, 0, #[], rfl, Nat.le_refl _, Blk.new w 9 #[], Nat.le_refl _, by unfold maxLen; omega, by simp, by simp⟩⟩
theorem infoString : (Tryz.prog.info? 9).map (fun i => (i.zero, i.size, i.bytes)) = some (some (.string ⟨#[]⟩), 1, 16) := by kernel_rfl

/-- The piece between two places. -/
theorem piece_nil (l : List UInt8) (k : Nat) : (l.drop k).take (k - k) = [] := by simp
theorem piece_snoc {l : List UInt8} {f k : Nat} {x : UInt8} (h : l[k]? = some x) (hf : f ≤ k) : (l.drop f).take (k + 1 - f) = (l.drop f).take (k - f) ++ [x] := by
  have hk : k < l.length := (List.getElem?_eq_some_iff.1 h).1
  have hx : l[k] = x := (List.getElem?_eq_some_iff.1 h).2
  rw [show k + 1 - f = (k - f) + 1 by omega, List.take_succ_eq_append_getElem (by rw [List.length_drop]; omega), List.getElem_drop]
  congr 2
  rw [← hx]
  congr 1
  omega
set_option maxHeartbeats 4000000 in
set_option maxRecDepth 20000 in
theorem l1Split_any (s : ByteArray) (b : UInt8) (w : World) (hs : s.size ≤ 1048576) :
    Calls Tryz.prog 22 #[.string s, .int .u8 b.toNat] w fun e w' => ∃ A' c', e = .returned (.slice A' (Pl.words b s.data.toList).length c') ∧ WO w' w.heap.size A' (Pl.words b s.data.toList).length c' (Pl.words b s.data.toList) ∧ Below w.heap.size w w' := by
  obtain ⟨i0, hi, hz0, hz1, hz2⟩ := info_parts infoString
  have hl := size_len s
  have hO := Lib.hid (WO.empty w)
  have hB0 : Below w.heap.size w (w.alloc (.cells #[] 9)) := (Below.refl _ _).alloc (Nat.le_refl _) _
  go_enter Tryz.func22, Tryz.ntmps22
  go_wp2_with fail
  generalize w.alloc (.cells #[] 9) = W0 at *
  go_loopw [5, 6, 7] (fun u f i wr => ∃ (done : List (List UInt8)) (A : Option Addr) (c p k : Nat), i = .int .i64 k ∧ f = .int .i64 p ∧ u = .slice A done.length c ∧ k ≤ s.size + 1 ∧ p ≤ k ∧ done.length ≤ k ∧ Hid (WO wr w.heap.size A done.length c done) ∧ Hid (k ≤ s.size → Pl.words b s.data.toList = done ++ Pl.ahead ((s.data.toList.drop p).take (k - p)) (Pl.words b (s.data.toList.drop k))) ∧ Hid (k = s.size + 1 → Pl.words b s.data.toList = done) ∧ Below w.heap.size w wr) (fun _ _ i _ => s.size + 1 - (intOf i).toNat)
  case atStart => exact ⟨[], _, _, 0, 0, rfl, rfl, rfl, by omega, by omega, by simp, hO, Lib.hid fun _ => by simp [Pl.ahead_nil], Lib.hid fun h => by omega, hB0⟩
  case round =>
    obtain ⟨done, A, c, p, k, rfl, rfl, rfl, hk, hp, hd, HO, HW, HE, hb⟩ := hrel
    have hsr := hb.size
    by_cases hlt : k ≤ s.size
    · have hex := Go.Lib.extract_data s p k
      by_cases hke : k = s.size
      · subst hke
        have HW2 : Hid (Pl.words b s.data.toList = done ++ [(s.extract p s.size).data.toList]) := Lib.hid (by
          have := HW.out (Nat.le_refl _)
          rw [show s.data.toList.drop s.size = [] from List.drop_eq_nil_of_le (by omega), ← hex] at this
          rw [this]
          simp only [Pl.words, Pl.ahead, List.append_nil])
        clear hex HW HE
        have howa := Lib.hid (ownsRow_below (HO).out ((Below.refl _ (wr)).alloc (Nat.le_refl _) (.cells #[.string (s.extract p s.size)] 9)))
        go_wp2_with (at_builtin; refine wpList_append_any rfl _ _ 50 rfl (w.heap.size) 9 i0 (.string ⟨#[]⟩) 1 16 Tryz.underlying50 hi hz0 hz1 hz2 rfl (by omega) (A) (done).length (c) ((done).map sv) rfl howa.out _ 1 _ [.string (s.extract p s.size)] rfl (Src.new _ [.string (s.extract p s.size)] _ 1 1 rfl (by simp [Value.oneCell'])) (by unfold maxLen; omega) (by omega) (by simp; omega) ?_; intro A2 c2 w2 ho2 hg hnil; have hgb := app_below hg howa.out (by omega); have HO2 : Hid (WO w2 (w.heap.size) A2 ((done).length + 1) c2 ((done) ++ [ByteArray.data (s.extract p s.size) |>.toList])) := Lib.hid (by have e := WO.snoc (x := (ByteArray.data (s.extract p s.size)).toList) (by rw [sv_of]; exact ho2); rwa [List.length_append] at e))
        clear howa ho2 hg hnil
        have hb2 := hb.trans (hgb.mono (by omega))
        go_wp2_with fail
        go_roundw
        case rel => exact ⟨done ++ [(s.extract p s.size).data.toList], A2, c2, s.size + 1, s.size + 1, by go_num, by go_num, by simp, by omega, by omega, by simp; omega, by rw [List.length_append]; exact HO2, Lib.hid fun h => by omega, Lib.hid fun _ => HW2.out, hb2⟩
        case measure => simp [intOf] <;> omega
      · obtain ⟨x, hx, hx2⟩ := byte_at (s := s) (k := k) (by omega)
        have hdr : s.data.toList.drop k = x :: s.data.toList.drop (k + 1) := by
          rw [List.drop_eq_getElem_cons (by omega), (List.getElem?_eq_some_iff.1 hx2).2]
        by_cases hxb : x = b
        · subst hxb
          have HW2 := Lib.hid (by
            have := HW.out hlt
            rw [hdr, Pl.words_cut, ← hex] at this
            exact this)
          clear hex HW HE hdr hx2
          have howa := Lib.hid (ownsRow_below (HO).out ((Below.refl _ (wr)).alloc (Nat.le_refl _) (.cells #[.string (s.extract p k)] 9)))
          go_wp2_with (at_builtin; refine wpList_append_any rfl _ _ 50 rfl (w.heap.size) 9 i0 (.string ⟨#[]⟩) 1 16 Tryz.underlying50 hi hz0 hz1 hz2 rfl (by omega) (A) (done).length (c) ((done).map sv) rfl howa.out _ 1 _ [.string (s.extract p k)] rfl (Src.new _ [.string (s.extract p k)] _ 1 1 rfl (by simp [Value.oneCell'])) (by unfold maxLen; omega) (by omega) (by simp; omega) ?_; intro A2 c2 w2 ho2 hg hnil; have hgb := app_below hg howa.out (by omega); have HO2 : Hid (WO w2 (w.heap.size) A2 ((done).length + 1) c2 ((done) ++ [ByteArray.data (s.extract p k) |>.toList])) := Lib.hid (by have e := WO.snoc (x := (ByteArray.data (s.extract p k)).toList) (by rw [sv_of]; exact ho2); rwa [List.length_append] at e))
          clear howa ho2 hg hnil
          have hb2 := hb.trans (hgb.mono (by omega))
          go_wp2_with fail
          go_roundw
          case rel => exact ⟨done ++ [(s.extract p k).data.toList], A2, c2, k + 1, k + 1, by go_num, by go_num, by simp, by omega, by omega, by simp; omega, by rw [List.length_append]; exact HO2, Lib.hid fun h => by rw [HW2.out, piece_nil, Pl.ahead_nil]; simp, Lib.hid fun h => by omega, hb2⟩
          case measure => simp [intOf]; omega
        · have hne : ((x.toNat : Int) == (b.toNat : Int)) = false := by
            simp only [beq_eq_false_iff_ne, ne_eq]
            intro e
            exact hxb (UInt8.toNat_inj.1 (by omega))
          have HW2 := Lib.hid (by
            have := HW.out hlt
            rw [hdr, Pl.words_step hxb, ← piece_snoc hx2 hp] at this
            exact this)
          clear hex HW HE hdr hx2
          go_wp2_with fail
          go_roundw
          case rel => exact ⟨done, A, c, p, k + 1, by go_num, rfl, rfl, by omega, by omega, by omega, HO, Lib.hid fun h => HW2.out, Lib.hid fun h => by omega, hb⟩
          case measure => simp [intOf]; omega
    · obtain rfl : k = s.size + 1 := by omega
      have HE2 := Lib.hid (HE.out rfl)
      clear HW HE
      go_wp2_with fail
      go_ret
      rw [HE2.out]
      exact ⟨_, _, rfl, HO.out, hb⟩
end Go.Proofs.YtlcchafcgidpeaaGreatDoor
/-! Contracts: words joined; numbers as words. -/

namespace Go.Proofs.YtlcchafcgidpeaaGreatDoor
open Go.RowKit
open Go.Lib (decDigits)
set_option linter.unusedVariables false
set_option linter.unusedSimpArgs false

/-- The first words, joined. -/
def jn (W : List (List UInt8)) (b : List UInt8) (k : Nat) : List UInt8 := Go.Lib.join (W.take k) b
theorem jn_zero (W : List (List UInt8)) (b : List UInt8) : jn W b 0 = [] := by simp [jn, Go.Lib.join_nil]
theorem jn_one {W : List (List UInt8)} (b : List UInt8) (h : 0 < W.length) : jn W b 1 = W.getD 0 [] := by
  cases W with
  | nil => simp at h
  | cons x r => simp [jn, Go.Lib.join_one]
theorem jn_step {W : List (List UInt8)} (b : List UInt8) {k : Nat} (h0 : 0 < k) (h : k < W.length) : jn W b (k + 1) = jn W b k ++ b ++ W.getD k [] := by
  cases W with
  | nil => simp at h
  | cons x r =>
    obtain ⟨j, rfl⟩ : ∃ j, k = j + 1 := ⟨k - 1, by omega⟩
    have hj : j < r.length := by simpa using h
    unfold jn
    rw [List.take_succ_cons, List.take_succ_cons, Go.Lib.join_cons, Go.Lib.join_cons, Go.Lib.joinTail_take_succ b r j r[j] (List.getElem?_eq_getElem hj)]
    simp [List.getD_eq_getElem?_getD, hj]
theorem jn_all {W : List (List UInt8)} (b : List UInt8) {n : Nat} (h : W.length = n) : jn W b n = Go.Lib.join W b := by unfold jn; rw [List.take_of_length_le (by omega)]
theorem jn_le (W : List (List UInt8)) (b : List UInt8) (k : Nat) : (jn W b k).length ≤ (Go.Lib.join W b).length := by
  cases W with
  | nil => simp [jn]
  | cons x r =>
    cases k with
    | zero => simp [jn, Go.Lib.join_nil]
    | succ k =>
      unfold jn
      rw [List.take_succ_cons, Go.Lib.join_cons, Go.Lib.join_cons, List.length_append, List.length_append]
      have := Go.Lib.joinTail_take_le b r k
      omega
set_option maxHeartbeats 2000000 in
set_option maxRecDepth 20000 in
theorem l1Words_any (A : Option Addr) (n c : Nat) (W : List (List UInt8)) (b : List UInt8) (w : World) (h : WI w A n W) (hn : n ≤ 1048576) (hlen : (Go.Lib.join W b).length ≤ 1048576) (hbl : b.length ≤ 10) :
    Calls Tryz.prog 44 #[.slice A n c, .string ⟨b.toArray⟩] w fun e w' => e = .returned (.string ⟨(Go.Lib.join W b).toArray⟩) ∧ w' = w := by
  have hl := h.1
  have HJ := Lib.hid fun k => jn_le W b k
  go_enter Tryz.func44, Tryz.ntmps44
  go_wp2_with fail
  go_loop [5, 6] (fun u i => ∃ k : Nat, k ≤ n ∧ i = .int .i64 k ∧ u = .string ⟨(jn W b k).toArray⟩) (fun _ i => n - (intOf i).toNat)
  case atStart => exact ⟨0, Nat.zero_le _, rfl, by rw [jn_zero]⟩
  case round =>
    obtain ⟨k, hk, rfl, rfl⟩ := hrel
    have hj := HJ.out k
    by_cases hlt : k < n
    · obtain ⟨g, off, x, rfl, hc, hx⟩ := h.at_ hlt
      have hj2 := HJ.out (k + 1)
      by_cases h0 : k = 0
      · subst h0
        have HS := Lib.hid (jn_one (W := W) b (by omega))
        have hxl : x.length ≤ 1048576 := by
          have e : (jn W b 1).length ≤ 1048576 := Nat.le_trans hj2 hlen
          rw [hx.out, ← HS.out]; exact e
        have hc0 : w.cell? ⟨g, off, none⟩ = some (.string ⟨x.toArray⟩) := by simpa using hc
        have HZ := Lib.hid (jn_zero W b)
        have hj0 : (jn W b 0).length ≤ 1048576 := Nat.le_trans hj hlen
        clear hj hj2
        go_wp2_with fail
        go_round
        case rel => exact ⟨1, by omega, by go_num, by rw [HZ.out, HS.out, ByteArray.mk_append_mk, hx.out, List.nil_append]⟩
        case measure => simp [intOf]; omega
      · have HS := Lib.hid (jn_step (W := W) b (by omega) (k := k) (by omega))
        have hxl : (jn W b k).length + b.length + x.length ≤ 1048576 := by
          have := HS.out
          have e := congrArg List.length this
          rw [List.length_append, List.length_append, ← hx.out] at e
          omega
        clear hj2
        go_wp2_with fail
        go_round
        case rel => exact ⟨k + 1, by omega, by go_num, by rw [HS.out, ByteArray.mk_append_mk, ByteArray.mk_append_mk, hx.out]⟩
        case measure => simp [intOf]; omega
    · obtain rfl : k = n := by omega
      have HA := Lib.hid (jn_all b hl)
      go_wp2_with fail
      go_ret
      rw [HA.out]
      exact ⟨rfl, rfl⟩
theorem num_any (u : Nat) (hu : u < 100) (w : World) :
    Calls Tryz.prog 64 #[.int .i64 u] w fun e w' => e = .returned (.string ⟨(decDigits u).toArray⟩) ∧ w' = w := by
  go_enter Tryz.func64, Tryz.ntmps64
  go_wp2_with fail
  refine (Tryz.strconv_FormatInt_10_small u hu w).mono ?_
  rintro e w1 ⟨rfl, rfl⟩
  go_wp2_with fail
  go_ret
  exact ⟨rfl, rfl⟩
def decs (xs : List Int) : List (List UInt8) := xs.map fun n => decDigits n.toNat
theorem decs_snoc {xs : List Int} {k : Nat} {x : Int} (h : k < xs.length) (hx : x = xs.getD k 0) : decs (xs.take (k + 1)) = decs (xs.take k) ++ [decDigits x.toNat] := by
  unfold decs
  rw [List.take_succ_eq_append_getElem h, List.map_append, hx]
  simp [List.getD_eq_getElem?_getD, h]
theorem decs_len (xs : List Int) : (decs xs).length = xs.length := by simp [decs]
theorem dec_two {u : Nat} (h : u < 100) : (decDigits u).length ≤ 2 := by
  by_cases h1 : u < 10
  · rw [Go.Lib.decDigits_one h1]; simp
  · rw [Go.Lib.decDigits_two h1 h]; simp
theorem join_bd {b : List UInt8} : ∀ {W : List (List UInt8)} {m : Nat}, (∀ x ∈ W, x.length ≤ m) → (Go.Lib.join W b).length ≤ W.length * (m + b.length)
  | [], m, _ => by simp [Go.Lib.join_nil]
  | x :: r, m, h => by
    rw [Go.Lib.join_cons, List.length_append]
    have h1 := h x List.mem_cons_self
    have h2 : ∀ {r : List (List UInt8)}, (∀ x ∈ r, x.length ≤ m) → (Go.Lib.joinTail b r).length ≤ r.length * (m + b.length) := by
      intro r
      induction r with
      | nil => intro _; simp [Go.Lib.joinTail]
      | cons y r ih =>
        intro hr
        have e1 := hr y List.mem_cons_self
        have e2 := ih fun z hz => hr z (List.mem_cons_of_mem _ hz)
        simp only [Go.Lib.joinTail, List.map_cons, List.flatten_cons, List.length_append, List.length_cons] at e2 ⊢
        rw [Nat.succ_mul]
        omega
    have h3 := h2 fun z hz => h z (List.mem_cons_of_mem _ hz)
    rw [List.length_cons, Nat.succ_mul]
    omega
set_option maxHeartbeats 4000000 in
set_option maxRecDepth 20000 in
theorem l1Ints_any (A : Option Addr) (n c : Nat) (xs : List Int) (w : World) (h : RI w A n xs) (hn : n ≤ 1000) (hx : ∀ k, k < n → 0 ≤ xs.getD k 0 ∧ xs.getD k 0 < 100) :
    Calls Tryz.prog 56 #[.slice A n c] w fun e w' => e = .returned (.string ⟨(Pl.sigTxt xs).toArray⟩) ∧ Below w.heap.size w w' := by
  obtain ⟨i0, hi, hz0, hz1, hz2⟩ := info_parts infoString
  have hl := h.1
  have hO := Lib.hid (WO.empty w)
  have hB0 : Below w.heap.size w (w.alloc (.cells #[] 9)) := (Below.refl _ _).alloc (Nat.le_refl _) _
  have HX := Lib.hid hx
  have HT : Hid (Go.Lib.join (decs xs) [32] = Pl.sigTxt xs ∧ (Go.Lib.join (decs xs) [32]).length ≤ 3000) := Lib.hid ⟨rfl, by
    have := join_bd (b := [32]) (W := decs xs) (m := 2) (fun x hx' => by
      obtain ⟨y, hy, rfl⟩ := List.mem_map.1 hx'
      obtain ⟨i, hi, rfl⟩ := List.getElem_of_mem hy
      have := hx i (by omega)
      rw [List.getD_eq_getElem?_getD, List.getElem?_eq_getElem hi, Option.getD_some] at this
      exact dec_two (by omega))
    rw [decs_len] at this
    simp at this
    omega⟩
  clear hx
  go_enter Tryz.func56, Tryz.ntmps56
  go_wp2_with fail
  generalize w.alloc (.cells #[] 9) = W0 at *
  go_loopw [3, 4] (fun u i wr => ∃ (k : Nat) (A' : Option Addr) (c' : Nat), k ≤ n ∧ i = .int .i64 k ∧ u = .slice A' k c' ∧ Hid (WO wr w.heap.size A' k c' (decs (xs.take k))) ∧ Below w.heap.size w wr) (fun _ i _ => n - (intOf i).toNat)
  case atStart => exact ⟨0, _, _, Nat.zero_le _, rfl, rfl, hO, hB0⟩
  case round =>
    obtain ⟨k, A', c', hk, rfl, rfl, HO, hb⟩ := hrel
    have hsr := hb.size
    by_cases hlt : k < n
    · obtain ⟨g, off, x, rfl, hc, hx⟩ := (h.below hb).at_ hlt
      have hx2 : 0 ≤ x ∧ x < 100 := by rw [hx.out]; exact HX.out k hlt
      have HS := Lib.hid (decs_snoc (xs := xs) (by omega) hx.out)
      obtain ⟨y, rfl⟩ : ∃ y : Nat, x = y := ⟨x.toNat, by omega⟩
      go_wp2_with fail
      refine (l1Int_any y (by omega) wr).mono ?_
      rintro e w3 ⟨rfl, hb3⟩
      have HO3 := Lib.hid (HO.out.below hb3)
      have hb4 := hb.trans (hb3.mono (by omega))
      have hs3 := hb4.size
      obtain ⟨D, hD⟩ : ∃ D : List (List UInt8), Hid (D = decs (xs.take k)) := ⟨_, Lib.hid rfl⟩
      have hDl : D.length = k := by rw [hD.out, decs_len, List.length_take]; omega
      rw [← hD.out] at HS
      rw [← hD.out, ← hDl] at HO3
      have hD2 := Lib.hid HS.out
      rw [← hDl] at hD2
      clear HO hb hb3 hD HS
      subst hDl
      have howa := Lib.hid (ownsRow_below (HO3).out ((Below.refl _ (w3)).alloc (Nat.le_refl _) (.cells #[.string (⟨(decDigits y).toArray⟩)] 9)))
      go_wp2_with (at_builtin; refine wpList_append_any rfl _ _ 50 rfl (w.heap.size) 9 i0 (.string ⟨#[]⟩) 1 16 Tryz.underlying50 hi hz0 hz1 hz2 rfl (by omega) (A') (D).length (c') ((D).map sv) rfl howa.out _ 1 _ [.string (⟨(decDigits y).toArray⟩)] rfl (Src.new _ [.string (⟨(decDigits y).toArray⟩)] _ 1 1 rfl (by simp [Value.oneCell'])) (by unfold maxLen; omega) (by omega) (by simp; omega) ?_; intro A2 c2 w2 ho2 hg hnil; have hgb := app_below hg howa.out (by omega); have HO2 : Hid (WO w2 (w.heap.size) A2 ((D).length + 1) c2 ((D) ++ [ByteArray.data (⟨(decDigits y).toArray⟩) |>.toList])) := Lib.hid (by have e := WO.snoc (x := (ByteArray.data (⟨(decDigits y).toArray⟩)).toList) (by rw [sv_of]; exact ho2); rwa [List.length_append] at e))
      clear howa ho2 hg hnil
      have hb5 := hb4.trans (hgb.mono (by omega))
      go_wp2_with fail
      go_roundw
      case rel => exact ⟨D.length + 1, A2, c2, by omega, by go_num, rfl, Lib.hid (by rw [hD2.out]; exact HO2.out), hb5⟩
      case measure => simp [intOf]; omega
    · obtain rfl : k = n := by omega
      have HW : WI wr A' k (decs xs) := by have := HO.out.wi; rwa [List.take_of_length_le (by omega)] at this
      clear HO
      have ht := HT.out.2
      go_wp2_with fail
      refine (l1Words_any A' k c' (decs xs) [32] wr HW (by omega) (by omega) (by simp)).mono ?_
      rintro e w3 ⟨rfl, rfl⟩
      go_wp2_with fail
      go_ret
      rw [HT.out.1]
      exact ⟨rfl, hb⟩
set_option maxHeartbeats 4000000 in
set_option maxRecDepth 20000 in
theorem numsText_any (A : Option Addr) (n c : Nat) (xs : List Int) (w : World) (h : RI w A n xs) (hn0 : 1 ≤ n) (hn : n ≤ 1000) (hx : ∀ k, k < n → 0 ≤ xs.getD k 0 ∧ xs.getD k 0 < 100) :
    Calls Tryz.prog 34 #[.slice A n c, .string ⟨#[32]⟩] w fun e w' => e = .returned (.string ⟨(Pl.sigTxt xs).toArray⟩) ∧ Below w.heap.size w w' := by
  obtain ⟨i0, hi, hz0, hz1, hz2⟩ := info_parts infoString
  have hl := h.1
  have HX := Lib.hid hx
  have HT : Hid (Go.Lib.join (decs xs) [32] = Pl.sigTxt xs ∧ (Go.Lib.join (decs xs) [32]).length ≤ 3000) := Lib.hid ⟨rfl, by
    have := join_bd (b := [32]) (W := decs xs) (m := 2) (fun x hx' => by
      obtain ⟨y, hy, rfl⟩ := List.mem_map.1 hx'
      obtain ⟨i, hi, rfl⟩ := List.getElem_of_mem hy
      have := hx i (by omega)
      rw [List.getD_eq_getElem?_getD, List.getElem?_eq_getElem hi, Option.getD_some] at this
      exact dec_two (by omega))
    rw [decs_len] at this
    simp at this
    omega⟩
  clear hx
  go_enter Tryz.func34, Tryz.ntmps34
  go_wp2_with (at_make; refine wpList_make_full _ rfl _ _ 50 rfl w.heap.size 9 i0 (.string ⟨#[]⟩) 1 Tryz.underlying50 hi hz0 hz1 .i64 .i64 _ _ n rfl rfl rfl rfl (by rw [hz2]; omega) (by unfold maxLen; omega) (by omega) ?_; intro w1 hown hg)
  go_loopw [13] (fun i wr => ∃ k : Nat, k ≤ n ∧ i = .int .i64 k ∧ Hid (wr.ownsRow w.heap.size 9 1 (.slice (some ⟨w.heap.size, 0, none⟩) n n) n ((decs (xs.take k) ++ List.replicate (n - k) []).map sv)) ∧ Below w.heap.size w wr) (fun i _ => n - (intOf i).toNat)
  case atStart =>
    refine ⟨0, Nat.zero_le _, rfl, Lib.hid ?_, ?_⟩
    · simpa [Value.cells, toList_madeCells_one, decs, sv] using hown
    · exact (Below.refl _ _).grown hg (Nat.le_refl _) (by simp)
  case round =>
    obtain ⟨k, hk, rfl, ho, hb⟩ := hrel
    by_cases hlt : k < n
    · obtain ⟨g, off, x, rfl, hc, hx⟩ := (h.below hb).at_ hlt
      have hf := ho.out.frozenAt k
      obtain ⟨v, hcc⟩ := own_some ho.out hlt
      have hx2 : 0 ≤ x ∧ x < 100 := by rw [hx.out]; exact HX.out k hlt
      have HS := Lib.hid (decs_snoc (xs := xs) (by omega) hx.out)
      have hdl : (decs (xs.take k)).length = k := by rw [decs_len, List.length_take]; omega
      obtain ⟨y, rfl⟩ : ∃ y : Nat, x = y := ⟨x.toNat, by omega⟩
      have hst := Lib.hid (ho.out.stored k (.string ⟨(decDigits y).toArray⟩)).1
      have hb' := hb.setCell (p := ⟨w.heap.size, k, none⟩) (Nat.le_refl _) (.string ⟨(decDigits y).toArray⟩)
      have HU : Hid ((((decs (xs.take k) ++ List.replicate (n - k) []).map sv).set k (.string ⟨(decDigits y).toArray⟩)) = (decs (xs.take (k + 1)) ++ List.replicate (n - (k + 1)) []).map sv) := Lib.hid (by
        rw [HS.out, List.map_append, List.set_append_right _ _ (by rw [List.length_map]; omega), List.length_map, hdl, Nat.sub_self, show n - k = (n - (k + 1)) + 1 by omega, List.replicate_succ]
        simp [sv])
      clear HS hdl
      go_wp2_with fail
      refine (num_any y (by omega) wr).mono ?_
      rintro e w3 ⟨rfl, rfl⟩
      go_wp2_with fail
      go_roundw
      case rel => exact ⟨k + 1, by omega, by go_num, Lib.hid (by rw [← HU.out]; simpa using hst.out), by simpa using hb'⟩
      case measure => simp [intOf]; omega
    · obtain rfl : k = n := by omega
      have ht := HT.out.2
      have hcs : ∀ (j : Nat) (x : ByteArray), ((decs xs).map fun l => (⟨l.toArray⟩ : ByteArray))[j]? = some x → wr.cell? ⟨w.heap.size, 0 + j, none⟩ = some (.string x) := by
        intro j x hj
        rw [List.getElem?_map] at hj
        cases hd : (decs xs)[j]? with
        | none => rw [hd] at hj; cases hj
        | some l =>
          rw [hd] at hj
          simp only [Option.map_some, Option.some.injEq] at hj
          subst hj
          have hjl : j < (decs xs).length := (List.getElem?_eq_some_iff.1 hd).1
          rw [decs_len] at hjl
          rw [Nat.zero_add, ho.out.cellAt j (by omega), List.take_of_length_le (by omega)]
          simp [hd, sv]
      have HC := Lib.hid hcs
      have hmm : (((decs xs).map fun l => (⟨l.toArray⟩ : ByteArray)).map fun x => x.data.toList) = decs xs := by rw [List.map_map]; exact (List.map_congr_left fun l _ => rfl).trans (List.map_id _)
      have HM := Lib.hid hmm
      have hgl : w.heap.size < wr.heap.size := by
        have := World.block_lt_of_cell? wr _ (own_some ho.out (k := 0) (by omega)).choose_spec
        simpa using this
      clear hcs hmm
      have hJ := Tryz.strings_Join w.heap.size 0 k ((decs xs).map fun l => (⟨l.toArray⟩ : ByteArray)) ⟨#[32]⟩ wr HC.out hgl (by rw [List.length_map, decs_len]; omega) (by rw [List.length_map, decs_len]; omega) (by rw [HM.out]; exact Nat.le_trans ht (by omega))
      rw [List.length_map, decs_len, hl, HM.out] at hJ
      have HJ := Lib.hid hJ
      clear hJ
      go_wp2_with fail
      refine HJ.out.mono ?_
      rintro e w3 ⟨rfl, hb3⟩
      go_wp2_with fail
      go_ret
      rw [HT.out.1]
      exact ⟨rfl, below_then hb hb3 (by omega)⟩
end Go.Proofs.YtlcchafcgidpeaaGreatDoor
