/- Contracts: the text of a term, both sides. -/
import Derived.Test.YtlcchafcgidpeaaGreatDoorStrN
import Derived.Test.YtlcchafcgidpeaaGreatDoorArgs
import Derived.Test.YtlcchafcgidpeaaGreatDoorPlace2
import Derived.Deep.RegionHeld3
import Derived.Test.YtlcchafcgidpeaaGreatDoorDraw
import Derived.Lib.AppendIntMem
import Derived.Test.YtlcchafcgidpeaaGreatDoorTerm2
import Derived.Test.YtlcchafcgidpeaaGreatDoorRuleOk
namespace Go.Proofs.YtlcchafcgidpeaaGreatDoor
open Go.RowKit
open Go.Lib (decDigits byteCells)
set_option linter.unusedVariables false
set_option linter.unusedSimpArgs false

namespace Pl
theorem part_le (g : Nat → List UInt8) (L : List Nat) : ∀ j, j ≤ L.length → (part g (L.take j)).length ≤ (part g L).length := by
  have : ∀ d j, j + d = L.length → (part g (L.take j)).length ≤ (part g L).length := by
    intro d
    induction d with
    | zero => intro j hj; rw [List.take_of_length_le (by omega)]; exact Nat.le_refl _
    | succ d ih =>
      intro j hj
      have h1 := ih (j + 1) (by omega)
      rw [part_step g (by omega : j < L.length), List.length_append] at h1
      omega
  intro j hj
  exact this (L.length - j) j (by omega)
theorem ari_of {ar : List Int} {x : Int} (h0 : 0 ≤ x) (h1 : x < ar.length) : ari ar x = ar.getD x.toNat 0 := by
  unfold ari
  rw [if_neg (by omega), if_pos h1]
theorem ari_neg {ar : List Int} {x : Int} (h0 : x < 0) (h1 : -24 ≤ x) : ari ar x = 0 := by
  unfold ari
  rw [if_pos h0, if_neg (by omega)]
theorem txt_var {ar t : List Int} (h : termOk ar t = true) {p : Nat} (hp : p < t.length) (hx : t.getD p 0 < 0) : txt ar t p = 120 :: decDigits (-1 - t.getD p 0).toNat ∧ args (ari ar) t p = [] ∧ fin (ari ar) t p = p + 1 := by
  have hb := termOk_ge h _ (getD_mem hp)
  have e := ari_neg (ar := ar) hx hb.1
  have ea : args (ari ar) t p = [] := by unfold args; rw [e]; rfl
  refine ⟨?_, ea, ?_⟩
  · rw [txt_eq h hp, ea]
    unfold tok brack part
    rw [if_pos hx]
    simp
  · have := (args_start (termOk_iff.1 h).2.2 hp).2
    rw [e] at this
    rw [show (0 : Int).toNat = 0 from rfl, run_zero] at this
    have h1 := this.1
    injection h1 with h1
    omega
theorem txt_sym {ar t : List Int} (h : termOk ar t = true) {p : Nat} (hp : p < t.length) {x : Nat} (hx : t.getD p 0 = x) : x < ar.length ∧ ar.getD x 0 = (args (ari ar) t p).length ∧ (args (ari ar) t p).length ≤ 3 ∧
    txt ar t p = 102 :: decDigits x ++ brack (txt ar t) (args (ari ar) t p) := by
  have hb := termOk_ge h _ (getD_mem hp)
  rw [hx] at hb
  have hlt : x < ar.length := by omega
  have e := ari_of (ar := ar) (x := x) (by omega) hb.2
  have hs := (sigOk_iff.1 (termOk_iff.1 h).1).2 _ (getD_mem hlt)
  have ea : (args (ari ar) t p).length = (ar.getD x 0).toNat := by unfold args; rw [argsFrom_length, hx, e]; rfl
  refine ⟨hlt, by omega, by omega, ?_⟩
  rw [txt_eq h hp, hx]
  unfold tok
  rw [if_neg (by omega)]
  rfl
end Pl

theorem RI.belowB {w w' : World} {B : Nat} {A : Option Addr} {n : Nat} {xs : List Int} (h : RI w A n xs) (hf : 0 < n → ∀ a, A = some a → a.block < B) (hb : Below B w w') : RI w' A n xs := by
  refine ⟨h.1, fun hn => ?_⟩
  obtain ⟨g, off, hA, hc⟩ := h.2 hn
  have := hf hn _ hA
  exact ⟨g, off, hA, fun k hk => (hb.cell (p := ⟨g, off + k, none⟩) this).trans (hc k hk)⟩
theorem RI.lt {w : World} {A : Option Addr} {n : Nat} {xs : List Int} (h : RI w A n xs) : 0 < n → ∀ a, A = some a → a.block < w.heap.size := by
  intro hn a ha
  obtain ⟨g, off, hA, hc⟩ := h.2 hn
  rw [hA] at ha
  injection ha with ha
  subst ha
  exact World.block_lt_of_cell? w _ (hc 0 hn)
set_option maxHeartbeats 4000000 in
set_option maxRecDepth 20000 in
theorem l10Text_k (A : Option Addr) (n c : Nat) (xs : List Int) (B : Option Addr) (m d : Nat) (t : List Int) (hT : Pl.termOk xs t = true) (hm : m ≤ 1048576) (hn : n ≤ 1048576) : ∀ (k p : Nat) (w : World)
    (h : RI w A n xs) (h' : RI w B m t) (hp : p < m) (hk : m - p ≤ k),
    Calls Tryz.prog 69 #[.agg #[.slice A n c], .slice B m d, .int .i64 p] w fun e w' => e = .returned (.string ⟨(Pl.txt xs t p).toArray⟩) ∧ Below w.heap.size w w' := by
  intro k
  induction k with
  | zero => intro p w h h' hp hk; omega
  | succ k ih =>
    intro p w h h' hp hk
    have hl := h'.1
    obtain ⟨g, off, x, hBe, hc, hx⟩ := h'.at_ hp
    have hxr := Pl.termOk_bd hT (t.getD p 0) (Pl.getD_mem (by omega))
    rw [← hx.out] at hxr
    have h'0 := h'
    subst hBe
    by_cases hx0 : x < 0
    · obtain ⟨e1, _, _⟩ := Pl.txt_var hT (p := p) (by omega) (by rw [← hx.out]; exact hx0)
      rw [← hx.out] at e1
      have HE := Lib.hid e1
      obtain ⟨u, hu⟩ : ∃ u : Nat, (-1 - x) = u := ⟨(-1 - x).toNat, by omega⟩
      have hu2 : (-1 - x).toNat = u := by omega
      rw [hu2] at HE
      have hud := dec_two (u := u) (by omega)
      obtain rfl : x = -1 - (u : Int) := by omega
      have hu3 : -1 - (-1 - (u : Int)) = u := by omega
      have hcA := keepC ((Below.refl w.heap.size w).alloc (Nat.le_refl _) (.cells #[.slice A n c] 26)) hc
      clear e1 hu hu2 hx
      go_enter Tryz.func69, Tryz.ntmps69
      go_wp2_with fail
      refine (l1Int_any u (by omega) _).mono ?_
      rintro e w1 ⟨rfl, hb1⟩
      go_wp2_with fail
      go_ret
      rw [HE.out]
      exact ⟨by rw [show (⟨#[120]⟩ : ByteArray) = ⟨[120].toArray⟩ from rfl, ByteArray.mk_append_mk]; rfl, below_then ((Below.refl _ _).alloc (Nat.le_refl _) _) hb1 (by simp)⟩
    · obtain ⟨y, rfl⟩ : ∃ y : Nat, x = y := ⟨x.toNat, by omega⟩
      obtain ⟨hyl, hya, hal, e1⟩ := Pl.txt_sym hT (p := p) (x := y) (by omega) hx.out.symm
      have hmem := Pl.args_mem (Pl.termOk_iff.1 hT).2.2 (p := p) (by rw [hl]; exact hp)
      have htl := Pl.txt_len hT (p := p) (by omega)
      rw [hl] at hmem
      have HT := Lib.hid hT
      have hq : ∀ j, j < (Pl.args (Pl.ari xs) t p).length → p < (Pl.args (Pl.ari xs) t p).getD j 0 ∧ (Pl.args (Pl.ari xs) t p).getD j 0 < m := by
        intro j hj
        have := hmem ((Pl.args (Pl.ari xs) t p).getD j 0) (by rw [List.getD_eq_getElem?_getD, List.getElem?_eq_getElem hj, Option.getD_some]; exact List.getElem_mem hj)
        exact ⟨this.1, this.2.2.1⟩
      have hqx := fun q (hq : q < m) => Pl.txt_len hT (p := q) (by omega)
      clear hmem hya hyl
      have hpl := fun j hj => Pl.part_le (Pl.txt xs t) (Pl.args (Pl.ari xs) t p) j hj
      have hbl : (Pl.part (Pl.txt xs t) (Pl.args (Pl.ari xs) t p)).length ≤ 299 := by
        rw [e1] at htl
        unfold Pl.brack at htl
        simp only [List.length_append, List.length_cons] at htl
        omega
      have HE := Lib.hid e1
      have HX := Lib.hid hqx
      have HP := Lib.hid hpl
      clear e1 hqx hpl htl hx
      generalize hL : Pl.args (Pl.ari xs) t p = L at *
      have HL := Lib.hid hL
      clear hL
      have hdd := dec_two (u := y) (by omega)
      have hcA := keepC ((Below.refl w.heap.size w).alloc (Nat.le_refl _) (.cells #[.slice A n c] 26)) hc
      go_enter Tryz.func69, Tryz.ntmps69
      go_wp2_with fail
      refine (l1Int_any y (by omega) _).mono ?_
      rintro e w1 ⟨rfl, hb1⟩
      have hB : Below w.heap.size w w1 := below_then ((Below.refl _ _).alloc (Nat.le_refl _) _) hb1 (by simp)
      have bx : w1.cell? ⟨w.heap.size, 0, none⟩ = some (.slice A n c) := (hb1.cell (by simp)).trans (by simp)
      replace h := (h.alloc _).below hb1
      replace h' := (h'.alloc _).below hb1
      clear hb1 hc h'0
      go_wp2_with fail
      refine (l1Args_any A n c xs (some ⟨g, off, none⟩) m d t p w1 h h' HT.out hp hm hn).mono ?_
      rw [HL.out]
      rintro e w2 ⟨A', c', rfl, ho, hb2⟩
      have hR := ho.ri
      clear ho
      replace hB := below_then hB hb2 hB.size
      replace bx := keepC hb2 bx
      replace h := h.below hb2
      replace h' := h'.below hb2
      clear hb2
      obtain ⟨H0, hH0⟩ : ∃ H0 : List UInt8, H0 = 102 :: decDigits y := ⟨_, rfl⟩
      have hh0 : (⟨#[102]⟩ : ByteArray) ++ ⟨(decDigits y).toArray⟩ = ⟨H0.toArray⟩ := by rw [hH0, show (⟨#[102]⟩ : ByteArray) = ⟨[102].toArray⟩ from rfl, ByteArray.mk_append_mk]; rfl
      have hhl : H0.length ≤ 3 := by rw [hH0, List.length_cons]; omega
      have HH := Lib.hid hH0
      have HH1 := Lib.hid hh0
      clear hH0 hh0
      go_wp2_with fail
      go_loopw [7, 9] (fun u i wr => ∃ (j : Nat) (s : List UInt8), j ≤ L.length ∧ i = .int .i64 j ∧ u = .string ⟨s.toArray⟩ ∧ s.length ≤ 400 ∧ Hid (s = H0 ++ Pl.part (Pl.txt xs t) (L.take j)) ∧ Below w2.heap.size w2 wr) (fun _ i _ => L.length - (intOf i).toNat)
      case atStart => exact ⟨0, H0, Nat.zero_le _, rfl, by rw [HH1.out], by omega, Lib.hid (by simp [Pl.part]), Below.refl _ _⟩
      case round =>
        obtain ⟨j, s, hj, rfl, rfl, hsl, HS, hb⟩ := hrel
        by_cases hlt : j < L.length
        · obtain ⟨g2, off2, x, rfl, hc, hx⟩ := (hR.below hb).at_ (k := j) hlt
          have hxn : x = (L.getD j 0 : Nat) := by rw [hx.out, nats_getD _ _ hlt]
          have hqj := hq j hlt
          have HS2 := Lib.hid (Pl.part_step (Pl.txt xs t) hlt)
          have hpj := HP.out (j + 1) hlt
          obtain ⟨q, hqe⟩ : ∃ q : Nat, q = L.getD j 0 := ⟨_, rfl⟩
          rw [← hqe] at hxn hqj HS2
          subst hxn
          clear hx hqe
          have hbx := keepC hb bx
          have hq2 := hqj.2
          have hqk : m - q ≤ k := by omega
          have hql := HX.out q hq2
          have hsn : H0.length + (Pl.part (Pl.txt xs t) (L.take (j + 1))).length ≤ 302 := by omega
          have HSN := Lib.hid hsn
          clear hsn hpj
          by_cases hj0 : j = 0
          · subst hj0
            have hc0 : wr.cell? ⟨g2, off2, none⟩ = some (.int .i64 q) := by simpa using hc
            obtain ⟨s2, hs2⟩ : ∃ s2 : List UInt8, Hid (s2 = s ++ [40]) := ⟨_, Lib.hid rfl⟩
            have hs2l : s2.length ≤ 401 := by rw [hs2.out, List.length_append]; simp; omega
            have hs2e : (⟨s.toArray⟩ : ByteArray) ++ ⟨#[40]⟩ = ⟨s2.toArray⟩ := by rw [hs2.out, show (⟨#[40]⟩ : ByteArray) = ⟨[40].toArray⟩ from rfl, ByteArray.mk_append_mk]
            obtain ⟨tq, htq⟩ : ∃ tq : List UInt8, Hid (tq = Pl.txt xs t q) := ⟨_, Lib.hid rfl⟩
            rw [← htq.out] at hql HS2
            have had1 : ¬ 9223372036854775807 < s2.length + tq.length := by omega
            have had2 : s2.length + tq.length ≤ 9223372036854775807 := by omega
            go_wp2_with fail
            go_region_held3 (fun w' => Below wr.heap.size wr w' ∧ w'.cell? ⟨w.heap.size, 0, none⟩ = some (.slice A n c) ∧ w'.cell? ⟨g2, off2, none⟩ = some (.int .i64 q))
              (first | exact ⟨(Below.refl _ _).drew, hbx, hc0⟩ | exact keepS2 hb2 (by assumption) | assumption)
              ((go_at_call 69; refine (ih q _ ?_ ?_ hq2 hqk).mono ?_; exact riS (h.below hb) (by assumption); exact riS (h'.below hb) (by assumption); rw [← htq.out]; rintro e w2 ⟨rfl, hb2⟩))
            rename_i hS
            have hB2 := hb.trans (hS.1.mono hb.size)
            go_wp2_with fail
            go_roundw
            case rel => exact ⟨1, s2 ++ tq, by omega, by go_num, by rw [ByteArray.mk_append_mk], by have := HSN.out; rw [HS2.out] at this; simp [hs2.out, HS.out, Pl.part] at this ⊢; omega, Lib.hid (by rw [HS2.out, hs2.out, HS.out]; simp), hB2⟩
            case measure => simp [intOf]; omega
          · obtain ⟨s2, hs2⟩ : ∃ s2 : List UInt8, Hid (s2 = s ++ [44]) := ⟨_, Lib.hid rfl⟩
            have hs2l : s2.length ≤ 401 := by rw [hs2.out, List.length_append]; simp; omega
            have hs2e : (⟨s.toArray⟩ : ByteArray) ++ ⟨#[44]⟩ = ⟨s2.toArray⟩ := by rw [hs2.out, show (⟨#[44]⟩ : ByteArray) = ⟨[44].toArray⟩ from rfl, ByteArray.mk_append_mk]
            obtain ⟨tq, htq⟩ : ∃ tq : List UInt8, Hid (tq = Pl.txt xs t q) := ⟨_, Lib.hid rfl⟩
            rw [← htq.out] at hql HS2
            have had1 : ¬ 9223372036854775807 < s2.length + tq.length := by omega
            have had2 : s2.length + tq.length ≤ 9223372036854775807 := by omega
            go_wp2_with fail
            go_region_held3 (fun w' => Below wr.heap.size wr w' ∧ w'.cell? ⟨w.heap.size, 0, none⟩ = some (.slice A n c) ∧ w'.cell? ⟨g2, off2 + j, none⟩ = some (.int .i64 q))
              (first | exact ⟨(Below.refl _ _).drew, hbx, hc⟩ | exact keepS2 hb2 (by assumption) | assumption)
              ((go_at_call 69; refine (ih q _ ?_ ?_ hq2 hqk).mono ?_; exact riS (h.below hb) (by assumption); exact riS (h'.below hb) (by assumption); rw [← htq.out]; rintro e w2 ⟨rfl, hb2⟩))
            rename_i hS
            have hB2 := hb.trans (hS.1.mono hb.size)
            go_wp2_with fail
            go_roundw
            case rel => exact ⟨j + 1, s2 ++ tq, by omega, by go_num, by rw [ByteArray.mk_append_mk], by have := HSN.out; rw [HS2.out] at this; simp [hs2.out, HS.out, hj0] at this ⊢; omega, Lib.hid (by rw [HS2.out, hs2.out, HS.out]; simp [hj0]), hB2⟩
            case measure => simp [intOf]; omega
        · have hjl : j = L.length := by omega
          subst hjl
          have HZ : Hid (Pl.txt xs t p = s ++ if L.length = 0 then [] else [41]) := Lib.hid (by rw [HE.out, HS.out, List.take_length, HH.out]; unfold Pl.brack; simp)
          clear HS HE
          by_cases h0 : L.length = 0
          · have hnil : L = [] := List.eq_nil_of_length_eq_zero h0
            subst hnil
            go_wp2_with fail
            go_ret
            rw [HZ.out]
            exact ⟨by simp, below_then hB hb hB.size⟩
          · have hs2e : (⟨s.toArray⟩ : ByteArray) ++ ⟨#[41]⟩ = ⟨(s ++ [41]).toArray⟩ := by rw [show (⟨#[41]⟩ : ByteArray) = ⟨[41].toArray⟩ from rfl, ByteArray.mk_append_mk]
            have h1 : 0 < L.length := by omega
            have HH2 := Lib.hid hs2e
            have HN0 := Lib.hid h0
            clear hs2e h0
            go_wp2_with fail
            go_ret
            rw [HZ.out, if_neg HN0.out, ← HH2.out]
            exact ⟨rfl, below_then hB hb hB.size⟩
end Go.Proofs.YtlcchafcgidpeaaGreatDoor
/-! Contracts: the text of a term, by a Builder. -/

namespace Go.Proofs.YtlcchafcgidpeaaGreatDoor
open Go.RowKit
open Go.Lib (decDigits byteCells IsBuilderF BuilderAtF OthersKept)
set_option linter.unusedVariables false
set_option linter.unusedSimpArgs false

theorem bc_app (a b : List UInt8) : byteCells (a ++ b) = byteCells a ++ byteCells b := by simp [byteCells]
theorem bc_str (s : ByteArray) : Go.Lib.strCells s = byteCells s.data.toList := rfl
theorem bc_len (a : List UInt8) : (byteCells a).length = a.length := by simp [byteCells]
theorem Blk.others {w w' : World} {g b : Nat} {t e : TypeId} {cs : Array Value} (h : Blk w g t cs) (hk : OthersKept e (some b) w w') (hg : g ≠ b) (ht : t ≠ e) : Blk w' g t cs :=
  hk g _ h (by simpa using hg) (fun c fz he => ht (by simp only [Obj.cells.injEq] at he; exact he.2.1))
theorem bld_lt {T e : TypeId} {B b : Nat} {bs : List Value} {w : World} (h : IsBuilderF T e B b bs w) : b < w.heap.size ∧ B ≤ b := by
  have : ∀ {p : Value}, BuilderAtF T e B b p bs w → b < w.heap.size ∧ B ≤ b := by
    rintro p ⟨hB, v, hb, _⟩
    exact ⟨(Array.getElem?_eq_some_iff.1 hb).1, hB⟩
  rcases h with h | h
  · exact this h
  · exact this h
set_option maxHeartbeats 4000000 in
set_option maxRecDepth 20000 in
theorem termText_k (A : Option Addr) (n c : Nat) (xs : List Int) (T : Option Addr) (m d : Nat) (t : List Int) (hT : Pl.termOk xs t = true) (hm : m ≤ 1048576) (hn : n ≤ 1048576) (B b : Nat) (fA : 0 < n → ∀ a, A = some a → a.block < B) (fT : 0 < m → ∀ a, T = some a → a.block < B) : ∀ (k p : Nat) (pre : List UInt8) (w : World)
    (h : RI w A n xs) (h' : RI w T m t) (hI : IsBuilderF 81 5 B b (byteCells pre) w) (hBw : B ≤ w.heap.size) (hp : p < m) (hk : m - p ≤ k) (hlen : pre.length + (Pl.txt xs t p).length ≤ 1000),
    Calls Tryz.prog 54 #[.pointer (some ⟨b, 0, none⟩), .agg #[.slice A n c], .slice T m d, .int .i64 p] w fun e w' => e = .returned (.int .i64 (Pl.fin (Pl.ari xs) t p : Nat)) ∧ IsBuilderF 81 5 B b (byteCells (pre ++ Pl.txt xs t p)) w' ∧ Below B w w' ∧ OthersKept 5 (some b) w w' := by
  intro k
  induction k with
  | zero => intro p pre w h h' hI hBw hp hk hlen; omega
  | succ k ih =>
    intro p pre w h h' hI hBw hp hk hlen
    have hl := h'.1
    obtain ⟨hbl, hBb⟩ := bld_lt hI
    obtain ⟨g, off, x, hTe, hc, hx⟩ := h'.at_ hp
    have hxr := Pl.termOk_bd hT (t.getD p 0) (Pl.getD_mem (by omega))
    rw [← hx.out] at hxr
    subst hTe
    have hcA := keepC ((Below.refl w.heap.size w).alloc (Nat.le_refl _) (.cells #[.slice A n c] 26)) hc
    have hI0 := hI.alloc (.cells #[.slice A n c] 26)
    have hB0 : Below B w (w.alloc (.cells #[.slice A n c] 26)) := (Below.refl _ _).alloc hBw _
    have hO0 := (OthersKept.refl 5 (some b) w).alloc (.cells #[.slice A n c] 26)
    have bk0 := Blk.new w 26 #[.slice A n c]
    have hs0 : (w.alloc (.cells #[.slice A n c] 26)).heap.size = w.heap.size + 1 := by simp
    by_cases hx0 : x < 0
    · obtain ⟨e1, _, e2⟩ := Pl.txt_var hT (p := p) (by omega) (by rw [← hx.out]; exact hx0)
      rw [← hx.out] at e1
      have hp1000 : p ≤ 1000000000 := by omega
      have HE := Lib.hid e1
      have HF := Lib.hid e2
      obtain ⟨u, hu⟩ : ∃ u : Nat, (-1 - x) = u := ⟨(-1 - x).toNat, by omega⟩
      have hu2 : (-1 - x).toNat = u := by omega
      rw [hu2] at HE
      have hud := dec_two (u := u) (by omega)
      obtain rfl : x = -1 - (u : Int) := by omega
      have hu3 : -1 - (-1 - (u : Int)) = u := by omega
      clear e1 e2 hu hu2 hx hc
      go_enter Tryz.func54, Tryz.ntmps54
      go_wp2_with fail
      generalize w.alloc (.cells #[.slice A n c] 26) = W at *
      refine (num_any u (by omega) W).mono ?_
      rintro e w1 ⟨rfl, rfl⟩
      have hstr : (⟨#[120]⟩ : ByteArray) ++ ⟨(decDigits u).toArray⟩ = ⟨(120 :: decDigits u).toArray⟩ := by rw [show (⟨#[120]⟩ : ByteArray) = ⟨[120].toArray⟩ from rfl, ByteArray.mk_append_mk]; rfl
      have hpl : pre.length ≤ 1000 := by omega
      go_wp2_with fail
      refine (Tryz.Builder_WriteString_k B b (byteCells pre) ⟨(120 :: decDigits u).toArray⟩ w1 hI0 (by rw [bc_len]; simp [ByteArray.size]; omega) (by omega)).mono ?_
      rintro e w2 ⟨rfl, hAt, hb2, ho2⟩
      rw [bc_str, ← bc_app] at hAt
      have HI := Lib.hid (show IsBuilderF 81 5 B b (byteCells (pre ++ (120 :: decDigits u))) w2 from Or.inr hAt)
      clear hAt
      go_wp2_with fail
      go_ret
      rw [HE.out, HF.out]
      exact ⟨by go_num, HI.out, hB0.trans hb2, hO0.trans ho2⟩
    · obtain ⟨y, rfl⟩ : ∃ y : Nat, x = y := ⟨x.toNat, by omega⟩
      obtain ⟨hyl, hya, hal, e1⟩ := Pl.txt_sym hT (p := p) (x := y) (by omega) hx.out.symm
      obtain ⟨_, hrun, hF1, hF2⟩ := Pl.args_start (Pl.termOk_iff.1 hT).2.2 (p := p) (by omega)
      have hLl := Pl.argsFrom_length (Pl.ari xs) t (Pl.ari xs (t.getD p 0)).toNat (p + 1)
      have hL0 : Pl.args (Pl.ari xs) t p = Pl.argsFrom (Pl.ari xs) t (Pl.ari xs (t.getD p 0)).toNat (p + 1) := rfl
      rw [← hL0] at hLl
      rw [← hLl] at hrun hL0
      obtain ⟨g1, off1, r, hAe, hr, hr2⟩ := h.at_ (k := y) (by have := h.1; omega)
      have hyn : y < n := by have := h.1; omega
      subst hAe
      obtain rfl : r = ((Pl.args (Pl.ari xs) t p).length : Int) := hr2.out.trans hya
      have hg1 : g1 < B := fA (by have := h.1; omega) _ rfl
      have hpl := fun j hj => Pl.part_le (Pl.txt xs t) (Pl.args (Pl.ari xs) t p) j hj
      have hlen2 : pre.length + (1 + (decDigits y).length) + (Pl.brack (Pl.txt xs t) (Pl.args (Pl.ari xs) t p)).length ≤ 1000 := by
        rw [e1, List.length_append, List.length_cons] at hlen
        omega
      have hlen3 : pre.length + (1 + (decDigits y).length) + (Pl.part (Pl.txt xs t) (Pl.args (Pl.ari xs) t p)).length + (if (Pl.args (Pl.ari xs) t p).length = 0 then 0 else 1) ≤ 1000 := by
        unfold Pl.brack at hlen2
        rw [List.length_append] at hlen2
        by_cases h0 : (Pl.args (Pl.ari xs) t p).length = 0
        · rw [if_pos h0] at hlen2 ⊢
          rw [List.length_nil] at hlen2
          omega
        · rw [if_neg h0] at hlen2 ⊢
          rw [show ([41] : List UInt8).length = 1 from rfl] at hlen2
          omega
      have HE := Lib.hid e1
      have HP := Lib.hid hpl
      have HLEN := Lib.hid hlen3
      have HRUN := Lib.hid hrun
      have HL0 := Lib.hid hL0
      have hdd := dec_two (u := y) (by omega)
      clear e1 hpl hlen hlen2 hlen3 hrun hL0 hLl hya hyl hx hr2 hc
      generalize Pl.args (Pl.ari xs) t p = L at *
      obtain ⟨F, hFe⟩ : ∃ F : Nat, F = Pl.fin (Pl.ari xs) t p := ⟨_, rfl⟩
      rw [← hFe] at HRUN hF1 hF2
      have HFE := Lib.hid hFe
      clear hFe
      have hFm : F ≤ 1048576 := by omega
      go_enter Tryz.func54, Tryz.ntmps54
      go_wp2_with fail
      generalize w.alloc (.cells #[.slice (some ⟨g1, off1, none⟩) n c] 26) = W at *
      refine (num_any y (by omega) W).mono ?_
      rintro e w1 ⟨rfl, rfl⟩
      obtain ⟨H0, hH0⟩ : ∃ H0 : List UInt8, Hid (H0 = 102 :: decDigits y) := ⟨_, Lib.hid rfl⟩
      have hHl : H0.length = 1 + (decDigits y).length := by rw [hH0.out, List.length_cons]; omega
      have hstr : (⟨#[102]⟩ : ByteArray) ++ ⟨(decDigits y).toArray⟩ = ⟨H0.toArray⟩ := by rw [hH0.out, show (⟨#[102]⟩ : ByteArray) = ⟨[102].toArray⟩ from rfl, ByteArray.mk_append_mk]; rfl
      have hpl : pre.length ≤ 1000 := by have := HLEN.out; omega
      go_wp2_with fail
      refine (Tryz.Builder_WriteString_k B b (byteCells pre) ⟨H0.toArray⟩ w1 hI0 (by rw [bc_len]; simp [ByteArray.size]; omega) (by omega)).mono ?_
      rintro e w2 ⟨rfl, hAt, hb2, ho2⟩
      rw [bc_str, ← bc_app] at hAt
      have HI := Lib.hid (show IsBuilderF 81 5 B b (byteCells (pre ++ H0)) w2 from Or.inr hAt)
      have bk2 := bk0.others ho2 (by omega) (by decide)
      have hB2 := hB0.trans hb2
      have hO2 := hO0.trans ho2
      have hs2 := hb2.size
      have K2 : ∀ i, w2.cell? ⟨w.heap.size, i, none⟩ = #[Value.slice (some ⟨g1, off1, none⟩) n c][i]? := fun i => bk2.cell i
      have hr2 : w2.cell? ⟨g1, off1 + y, none⟩ = some (.int .i64 (L.length : Int)) := (hB2.cell (p := ⟨g1, off1 + y, none⟩) hg1).trans hr
      have hs2b : w.heap.size + 1 ≤ w2.heap.size := by have := bk2.lt; omega
      clear hAt hb2 ho2 bk0 hB0 hO0 hI0 hcA hstr
      go_wp2_with fail
      go_loopw [3, 10, 37] (fun u v i wr => ∃ (j q : Nat), j ≤ L.length ∧ i = .int .i64 j ∧ u = .int .i64 q ∧ Hid (L.drop j = Pl.argsFrom (Pl.ari xs) t (L.length - j) q) ∧ Hid (Pl.run (Pl.ari xs) (L.length - j) (t.drop q) = some (F - q)) ∧ q ≤ F ∧ p < q ∧ Hid (IsBuilderF 81 5 B b (byteCells (pre ++ H0 ++ Pl.part (Pl.txt xs t) (L.take j))) wr) ∧ Blk wr w.heap.size 26 #[.slice (some ⟨g1, off1, none⟩) n c] ∧ Below B w wr ∧ OthersKept 5 (some b) w wr) (fun _ _ i _ => L.length - (intOf i).toNat)
      case atStart => exact ⟨0, p + 1, Nat.zero_le _, rfl, by go_num, HL0, HRUN, hF1, by omega, Lib.hid (by simpa [Pl.part] using HI.out), bk2, hB2, hO2⟩
      case round =>
        clear HI bk2 hB2 hO2 K2 hr2
        obtain ⟨j, q, hj, rfl, rfl, HD, HR, hqF, hpq, HI, bk, hB, hO⟩ := hrel
        have hsr := bk.lt
        have KX : ∀ i, wr.cell? ⟨w.heap.size, i, none⟩ = #[Value.slice (some ⟨g1, off1, none⟩) n c][i]? := fun i => bk.cell i
        have hrr : wr.cell? ⟨g1, off1 + y, none⟩ = some (.int .i64 (L.length : Int)) := (hB.cell (p := ⟨g1, off1 + y, none⟩) hg1).trans hr
        by_cases hlt : j < L.length
        · obtain ⟨c1, hc1⟩ : ∃ c1, L.length - j = c1 + 1 := ⟨L.length - j - 1, by omega⟩
          have hdj := HD.out
          have hrj := HR.out
          rw [hc1] at hdj hrj
          obtain ⟨n1, n2, n3, n4⟩ := Pl.args_next hrj (by omega)
          have hgd : L.getD j 0 = q := by
            have e := congrArg (fun l => l.getD 0 0) hdj
            simp only [Pl.argsFrom, List.getD_cons_zero] at e
            rw [← e]
            simp [List.getD_eq_getElem?_getD]
          have hd2 : L.drop (j + 1) = Pl.argsFrom (Pl.ari xs) t (L.length - (j + 1)) (Pl.fin (Pl.ari xs) t q) := by
            rw [← List.drop_drop, hdj, show L.length - (j + 1) = c1 by omega]
            rfl
          have hr3 : Pl.run (Pl.ari xs) (L.length - (j + 1)) (t.drop (Pl.fin (Pl.ari xs) t q)) = some (F - Pl.fin (Pl.ari xs) t q) := by
            rw [show L.length - (j + 1) = c1 by omega, n4]
            congr 1
            omega
          have HS := Lib.hid (Pl.part_step (Pl.txt xs t) hlt)
          rw [hgd] at HS
          have hpj := HP.out (j + 1) hlt
          have hpl2 : pre.length + H0.length + (Pl.part (Pl.txt xs t) (L.take j)).length + 1 + (Pl.txt xs t q).length ≤ 1000 := by
            have e := HS.out
            have e2 := congrArg List.length e
            rw [List.length_append, List.length_cons] at e2
            have := HLEN.out
            omega
          have HPL := Lib.hid hpl2
          have hql : q < m := by omega
          have HD2 := Lib.hid hd2
          have HR2 := Lib.hid hr3
          have hfq : q < Pl.fin (Pl.ari xs) t q ∧ Pl.fin (Pl.ari xs) t q ≤ F := by omega
          obtain ⟨P0, hP0⟩ : ∃ P0 : List UInt8, Hid (P0 = pre ++ H0 ++ Pl.part (Pl.txt xs t) (L.take j)) := ⟨_, Lib.hid rfl⟩
          rw [← hP0.out] at HI
          have hP0l : P0.length + 1 + (Pl.txt xs t q).length ≤ 1000 := by rw [hP0.out, List.length_append, List.length_append]; exact hpl2
          clear hdj hrj n1 n2 n3 n4 hgd hd2 hr3 hpj hpl2 hc1 HD HR
          by_cases hj0 : j = 0
          · subst hj0
            have HS0 : Hid (P0 ++ [40] ++ Pl.txt xs t q = pre ++ H0 ++ Pl.part (Pl.txt xs t) (L.take (0 + 1))) := Lib.hid (by rw [HS.out, hP0.out]; simp)
            go_wp2_with fail
            refine (Tryz.Builder_WriteByte_k B b (byteCells P0) 40 wr HI.out (by rw [bc_len]; omega) (by omega)).mono ?_
            rintro e w3 ⟨rfl, hAt, hb3, ho3⟩
            have HI3 := Lib.hid (show IsBuilderF 81 5 B b (byteCells (P0 ++ [40])) w3 from Or.inr (by rw [bc_app]; exact hAt))
            have bk3 := bk.others ho3 (by omega) (by decide)
            have hB3 := hB.trans hb3
            have hO3 := hO.trans ho3
            have hs3 := hb3.size
            have K3 : ∀ i, w3.cell? ⟨w.heap.size, i, none⟩ = #[Value.slice (some ⟨g1, off1, none⟩) n c][i]? := fun i => bk3.cell i
            clear hAt hb3 ho3 HI bk hB hO KX hrr
            go_wp2_with fail
            refine (ih q (P0 ++ [40]) w3 (h.belowB fA hB3) (h'.belowB fT hB3) HI3.out (by omega) hql (by omega) (by rw [List.length_append]; exact hP0l)).mono ?_
            rintro e w4 ⟨rfl, hI4, hb4, ho4⟩
            rw [(HS0).out] at hI4
            have HI4 := Lib.hid hI4
            have bk4 := bk3.others ho4 (by omega) (by decide)
            have hB4 := hB3.trans hb4
            have hO4 := hO3.trans ho4
            clear hI4 hb4 ho4 HI3 bk3 hB3 hO3 K3
            go_wp2_with fail
            go_roundw
            case rel => exact ⟨(0) + 1, Pl.fin (Pl.ari xs) t q, by omega, by go_num, rfl, HD2, HR2, hfq.2, by omega, HI4, bk4, hB4, hO4⟩
            case measure => simp [intOf]; omega
          · have HS0 : Hid (P0 ++ [44] ++ Pl.txt xs t q = pre ++ H0 ++ Pl.part (Pl.txt xs t) (L.take (j + 1))) := Lib.hid (by rw [HS.out, hP0.out, if_neg hj0]; simp)
            go_wp2_with fail
            refine (Tryz.Builder_WriteByte_k B b (byteCells P0) 44 wr HI.out (by rw [bc_len]; omega) (by omega)).mono ?_
            rintro e w3 ⟨rfl, hAt, hb3, ho3⟩
            have HI3 := Lib.hid (show IsBuilderF 81 5 B b (byteCells (P0 ++ [44])) w3 from Or.inr (by rw [bc_app]; exact hAt))
            have bk3 := bk.others ho3 (by omega) (by decide)
            have hB3 := hB.trans hb3
            have hO3 := hO.trans ho3
            have hs3 := hb3.size
            have K3 : ∀ i, w3.cell? ⟨w.heap.size, i, none⟩ = #[Value.slice (some ⟨g1, off1, none⟩) n c][i]? := fun i => bk3.cell i
            clear hAt hb3 ho3 HI bk hB hO KX hrr
            go_wp2_with fail
            refine (ih q (P0 ++ [44]) w3 (h.belowB fA hB3) (h'.belowB fT hB3) HI3.out (by omega) hql (by omega) (by rw [List.length_append]; exact hP0l)).mono ?_
            rintro e w4 ⟨rfl, hI4, hb4, ho4⟩
            rw [(HS0).out] at hI4
            have HI4 := Lib.hid hI4
            have bk4 := bk3.others ho4 (by omega) (by decide)
            have hB4 := hB3.trans hb4
            have hO4 := hO3.trans ho4
            clear hI4 hb4 ho4 HI3 bk3 hB3 hO3 K3
            go_wp2_with fail
            go_roundw
            case rel => exact ⟨(j) + 1, Pl.fin (Pl.ari xs) t q, by omega, by go_num, rfl, HD2, HR2, hfq.2, by omega, HI4, bk4, hB4, hO4⟩
            case measure => simp [intOf]; omega
        · obtain rfl : j = L.length := by omega
          have hqe : q = F := by
            have := HR.out
            rw [Nat.sub_self, Pl.run_zero] at this
            injection this with this
            omega
          subst hqe
          have hI2 := HI.out
          rw [List.take_length] at hI2
          have HI2 := Lib.hid hI2
          clear hI2 HI HD HR
          by_cases h0 : L.length = 0
          · have HZ : Hid (pre ++ Pl.txt xs t p = pre ++ H0 ++ Pl.part (Pl.txt xs t) L) := Lib.hid (by rw [HE.out, hH0.out]; unfold Pl.brack; rw [if_pos h0]; simp)
            have h0i : (L.length : Int) = 0 := by omega
            go_wp2_with fail
            go_ret
            rw [HZ.out, ← HFE.out]
            exact ⟨by go_num, HI2.out, hB, hO⟩
          · have HZ : Hid (pre ++ Pl.txt xs t p = pre ++ H0 ++ Pl.part (Pl.txt xs t) L ++ [41]) := Lib.hid (by rw [HE.out, hH0.out]; unfold Pl.brack; rw [if_neg h0]; simp)
            have hl4 : (pre ++ H0 ++ Pl.part (Pl.txt xs t) L).length + 1 ≤ 1001 := by
              have := HLEN.out
              rw [List.length_append, List.length_append]
              omega
            have hpos : 0 < L.length := by omega
            have hpos2 : (0 : Int) < (L.length : Int) := by omega
            obtain ⟨P1, hP1⟩ : ∃ P1 : List UInt8, Hid (P1 = pre ++ H0 ++ Pl.part (Pl.txt xs t) L) := ⟨_, Lib.hid rfl⟩
            rw [← hP1.out] at HI2 hl4 HZ
            go_wp2_with fail
            refine (Tryz.Builder_WriteByte_k B b (byteCells P1) 41 wr HI2.out (by rw [bc_len]; omega) (by omega)).mono ?_
            rintro e w3 ⟨rfl, hAt, hb3, ho3⟩
            have HI3 := Lib.hid (show IsBuilderF 81 5 B b (byteCells (P1 ++ [41])) w3 from Or.inr (by rw [bc_app]; exact hAt))
            clear hAt
            go_wp2_with fail
            go_ret
            rw [HZ.out, ← HFE.out]
            exact ⟨by go_num, HI3.out, hB.trans hb3, hO.trans ho3⟩
end Go.Proofs.YtlcchafcgidpeaaGreatDoor
/-! Contracts: TermText, both sides. -/

namespace Go.Proofs.YtlcchafcgidpeaaGreatDoor
open Go.RowKit
open Go.Lib (decDigits byteCells IsBuilderF BuilderAtF OthersKept)
set_option linter.unusedVariables false
set_option linter.unusedSimpArgs false

def V_TermText (xs t : List Int) : List UInt8 := if Pl.termOk xs t = true then Pl.txt xs t 0 else []
theorem V_TermText_no {xs t : List Int} (h : Pl.termOk xs t = false) : V_TermText xs t = [] := by unfold V_TermText; rw [h]; rfl
theorem V_TermText_yes {xs t : List Int} (h : Pl.termOk xs t = true) : V_TermText xs t = Pl.txt xs t 0 := by unfold V_TermText; rw [if_pos h]
theorem V_TermText_len (xs t : List Int) : (V_TermText xs t).length ≤ 299 := by
  unfold V_TermText
  split
  · rename_i h; exact (Pl.txt_tk h).2
  · simp
set_option maxHeartbeats 1000000 in
set_option maxRecDepth 20000 in
theorem text_any (A : Option Addr) (n c : Nat) (xs : List Int) (T : Option Addr) (m d : Nat) (t : List Int) (w : World) (h : RI w A n xs) (h' : RI w T m t) (hT : Pl.termOk xs t = true) (hn : n ≤ 1048576) (hm : m ≤ 1048576) :
    Calls Tryz.prog 26 #[.agg #[.slice A n c], .slice T m d] w fun e w' => e = .returned (.string ⟨(Pl.txt xs t 0).toArray⟩) ∧ Below w.heap.size w w' := by
  have hm1 := (Pl.termOk_iff.1 hT).2.1
  rw [h'.1] at hm1
  have htl := (Pl.txt_tk hT).2
  have hf := Go.Lib.fresh_isBuilder 81 5 (w.alloc (.cells #[.slice A n c] 26))
  rw [World.size_alloc] at hf
  have hB0 : Below w.heap.size w ((w.alloc (.cells #[.slice A n c] 26)).alloc (.cells #[.pointer none, .slice none 0 0] 81)) := ((Below.refl _ _).alloc (Nat.le_refl _) _).alloc (by simp) _
  have bx0 := (Blk.new w 26 #[.slice A n c]).alloc (.cells #[.pointer none, .slice none 0 0] 81)
  have hsz : ((w.alloc (.cells #[.slice A n c] 26)).alloc (.cells #[.pointer none, .slice none 0 0] 81)).heap.size = w.heap.size + 1 + 1 := by simp
  have KX : ∀ i, ((w.alloc (.cells #[.slice A n c] 26)).alloc (.cells #[.pointer none, .slice none 0 0] 81)).cell? ⟨w.heap.size, i, none⟩ = #[Value.slice A n c][i]? := fun i => bx0.cell i
  have fA : 0 < n → ∀ a, A = some a → a.block < w.heap.size + 1 := fun hn a ha => by have := h.lt hn a ha; omega
  have fT : 0 < m → ∀ a, T = some a → a.block < w.heap.size + 1 := fun hn a ha => by have := h'.lt hn a ha; omega
  have HF := Lib.hid (IsBuilderF.of hf)
  clear hf
  go_enter Tryz.func26, Tryz.ntmps26
  go_wp2_with fail
  generalize (w.alloc (.cells #[.slice A n c] 26)).alloc (.cells #[.pointer none, .slice none 0 0] 81) = W at *
  have HS := Lib.hid hsz
  clear hsz
  refine (termText_k A n c xs T m d t hT hm hn (w.heap.size + 1) (w.heap.size + 1) fA fT m 0 [] W (h.below hB0) (h'.below hB0) HF.out (by have := HS.out; omega) (by omega) (by omega) (by simp; omega)).mono ?_
  rintro e w1 ⟨rfl, hI, hb1, ho1⟩
  have HI := Lib.hid hI
  have hB1 := hB0.trans (hb1.mono (by omega))
  have hs1 : w.heap.size + 1 ≤ w1.heap.size := by have := hb1.size; have := HS.out; omega
  clear hI hb1 ho1
  go_wp2_with fail
  refine (Tryz.Builder_String_any_k (w.heap.size + 1) (w.heap.size + 1) (Pl.txt xs t 0) w1 HI.out hs1).mono ?_
  rintro e w2 ⟨rfl, hI2, hb2, ho2⟩
  go_wp2_with fail
  go_ret
  exact ⟨rfl, hB1.trans (hb2.mono (by omega))⟩
set_option maxHeartbeats 1000000 in
theorem S_TermText (A : Option Addr) (n c : Nat) (xs : List Int) (B : Option Addr) (m d : Nat) (t : List Int) (w : World) (h : RI w A n xs) (h' : RI w B m t) (hn : n ≤ 1048576) (hm : m ≤ 1048576) :
    Calls Tryz.prog 43 #[.agg #[.slice A n c], .slice B m d] w fun e w' => e = .returned (.string ⟨(V_TermText xs t).toArray⟩) ∧ Below w.heap.size w w' := by
  have hl := h'.1
  cases hs : Pl.termOk xs t
  · have HE := Lib.hid (V_TermText_no hs)
    have HS := Lib.hid hs
    clear hs
    go_enter Tryz.func43, Tryz.ntmps43
    go_wp2_with fail
    refine (specTermOk_any A n c xs B m d t _ (h.alloc _) (h'.alloc _) (by omega) (by omega)).mono ?_
    rintro e w1 ⟨rfl, hb1⟩
    rw [HS.out]
    go_wp2_with fail
    go_ret
    rw [HE.out]
    exact ⟨rfl, below_then ((Below.refl _ _).alloc (Nat.le_refl _) _) hb1 (by simp)⟩
  · have HE := Lib.hid (V_TermText_yes hs)
    have hm1 := (Pl.termOk_iff.1 hs).2.1
    rw [hl] at hm1
    have HT := Lib.hid hs
    clear hs
    go_enter Tryz.func43, Tryz.ntmps43
    go_wp2_with fail
    refine (specTermOk_any A n c xs B m d t _ (h.alloc _) (h'.alloc _) (by omega) (by omega)).mono ?_
    rintro e w1 ⟨rfl, hb1⟩
    rw [HT.out]
    have hB : Below w.heap.size w w1 := below_then ((Below.refl _ _).alloc (Nat.le_refl _) _) hb1 (by simp)
    have bx : w1.cell? ⟨w.heap.size, 0, none⟩ = some (.slice A n c) := (hb1.cell (by simp)).trans (by simp)
    have h1 := (h.alloc _).below hb1
    have h2 := (h'.alloc _).below hb1
    clear hb1
    go_wp2_with fail
    refine (l10Text_k A n c xs B m d t HT.out (by omega) hn m 0 w1 h1 h2 (by omega) (by omega)).mono ?_
    rintro e w2 ⟨rfl, hb2⟩
    go_wp2_with fail
    go_ret
    rw [HE.out]
    exact ⟨rfl, below_then hB hb2 hB.size⟩
end Go.Proofs.YtlcchafcgidpeaaGreatDoor
/-! Contracts: RuleText, both sides. -/

namespace Go.Proofs.YtlcchafcgidpeaaGreatDoor
open Go.RowKit
set_option linter.unusedVariables false
set_option linter.unusedSimpArgs false

def V_RuleText (xs l r : List Int) : List UInt8 := if ruleOk xs l r = true then Pl.txt xs l 0 ++ Pl.arrow ++ Pl.txt xs r 0 else []
theorem V_RuleText_no {xs l r : List Int} (h : ruleOk xs l r = false) : V_RuleText xs l r = [] := by unfold V_RuleText; rw [h]; rfl
theorem V_RuleText_yes {xs l r : List Int} (h : ruleOk xs l r = true) : V_RuleText xs l r = Pl.txt xs l 0 ++ Pl.arrow ++ Pl.txt xs r 0 := by unfold V_RuleText; rw [if_pos h]
theorem ruleOk_terms {xs l r : List Int} (h : ruleOk xs l r = true) : Pl.termOk xs l = true ∧ Pl.termOk xs r = true := by
  unfold ruleOk at h
  simp only [Bool.and_eq_true] at h
  exact ⟨h.1.1.1, h.1.1.2⟩
set_option maxHeartbeats 2000000 in
set_option maxRecDepth 20000 in
theorem S_RuleText (A : Option Addr) (n c : Nat) (xs : List Int) (B : Option Addr) (m d : Nat) (l : List Int) (C : Option Addr) (o f : Nat) (r : List Int) (w : World) (h : RI w A n xs) (h' : RI w B m l) (h'' : RI w C o r) (hn : n ≤ 1048576) (hs : m + o ≤ 1048576) :
    Calls Tryz.prog 18 #[.agg #[.slice A n c], .agg #[.slice B m d, .slice C o f]] w fun e w' => e = .returned (.string ⟨(V_RuleText xs l r).toArray⟩) ∧ Below w.heap.size w w' := by
  have hB0 : Below w.heap.size w ((w.alloc (.cells #[.slice A n c] 26)).alloc (.cells #[.slice B m d, .slice C o f] 30)) := ((Below.refl _ _).alloc (Nat.le_refl _) _).alloc (by simp) _
  have bx0 := (Blk.new w 26 #[.slice A n c]).alloc (.cells #[.slice B m d, .slice C o f] 30)
  have by0 : Blk ((w.alloc (.cells #[.slice A n c] 26)).alloc (.cells #[.slice B m d, .slice C o f] 30)) (w.heap.size + 1) 30 #[.slice B m d, .slice C o f] := by
    have := Blk.new (w.alloc (.cells #[.slice A n c] 26)) 30 #[.slice B m d, .slice C o f]
    rwa [World.size_alloc] at this
  have h1 := h.below hB0
  have h2 := h'.below hB0
  have h3 := h''.below hB0
  have hsz : ((w.alloc (.cells #[.slice A n c] 26)).alloc (.cells #[.slice B m d, .slice C o f] 30)).heap.size = w.heap.size + 1 + 1 := by simp
  have K0 : ∀ i, ((w.alloc (.cells #[.slice A n c] 26)).alloc (.cells #[.slice B m d, .slice C o f] 30)).cell? ⟨w.heap.size, i, none⟩ = #[Value.slice A n c][i]? := fun i => bx0.cell i
  have K1 : ∀ i, ((w.alloc (.cells #[.slice A n c] 26)).alloc (.cells #[.slice B m d, .slice C o f] 30)).cell? ⟨w.heap.size + 1, i, none⟩ = #[Value.slice B m d, .slice C o f][i]? := fun i => by0.cell i
  cases hk : ruleOk xs l r
  · have HE := Lib.hid (V_RuleText_no hk)
    have HK := Lib.hid hk
    clear hk
    go_enter Tryz.func18, Tryz.ntmps18
    go_wp2_with fail
    generalize (w.alloc (.cells #[.slice A n c] 26)).alloc (.cells #[.slice B m d, .slice C o f] 30) = W at *
    refine (S_RuleOk A n c xs B m d l C o f r W h1 h2 h3 hn hs).mono ?_
    rintro e w1 ⟨rfl, hb1⟩
    rw [HK.out]
    go_wp2_with fail
    go_ret
    rw [HE.out]
    exact ⟨rfl, hB0.trans (hb1.mono (by omega))⟩
  · have HE := Lib.hid (V_RuleText_yes hk)
    obtain ⟨hT1, hT2⟩ := ruleOk_terms hk
    obtain ⟨TL, hTL⟩ : ∃ TL : List UInt8, Pl.txt xs l 0 = TL := ⟨_, rfl⟩
    obtain ⟨TR, hTR⟩ : ∃ TR : List UInt8, Pl.txt xs r 0 = TR := ⟨_, rfl⟩
    have hl1 := (Pl.txt_tk hT1).2
    have hl2 := (Pl.txt_tk hT2).2
    rw [hTL] at hl1
    rw [hTR] at hl2
    rw [hTL, hTR] at HE
    have HTL := Lib.hid hTL
    have HTR := Lib.hid hTR
    have HV1 := Lib.hid ((V_TermText_yes hT1).trans hTL)
    have HV2 := Lib.hid ((V_TermText_yes hT2).trans hTR)
    have HT1 := Lib.hid hT1
    have HT2 := Lib.hid hT2
    have HK := Lib.hid hk
    obtain ⟨T3, hT3⟩ : ∃ T3 : List UInt8, Hid (T3 = TL ++ Pl.arrow) := ⟨_, Lib.hid rfl⟩
    have hT3l : T3.length ≤ 303 := by rw [hT3.out, List.length_append]; simp [Pl.arrow]; omega
    have hadd : (⟨TL.toArray⟩ : ByteArray) ++ ⟨#[32, 45, 62, 32]⟩ = ⟨T3.toArray⟩ := by rw [hT3.out, show (⟨#[32, 45, 62, 32]⟩ : ByteArray) = ⟨Pl.arrow.toArray⟩ from rfl, ByteArray.mk_append_mk]
    have had1 : ¬ 9223372036854775807 < TL.length + 4 := by omega
    have had2 : ¬ 9223372036854775807 < T3.length + TR.length := by omega
    clear hk hTL hTR hT1 hT2
    go_enter Tryz.func18, Tryz.ntmps18
    go_wp2_with fail
    generalize (w.alloc (.cells #[.slice A n c] 26)).alloc (.cells #[.slice B m d, .slice C o f] 30) = W at *
    refine (S_RuleOk A n c xs B m d l C o f r W h1 h2 h3 hn hs).mono ?_
    rintro e w1 ⟨rfl, hb1⟩
    rw [HK.out]
    have hB1 := hB0.trans (hb1.mono (by omega))
    have c0 : w1.cell? ⟨w.heap.size, 0, none⟩ = some (.slice A n c) := (bx0.below hb1).cell 0
    have c1 : w1.cell? ⟨w.heap.size + 1, 0, none⟩ = some (.slice B m d) := (by0.below hb1).cell 0
    have c2 : w1.cell? ⟨w.heap.size + 1, 1, none⟩ = some (.slice C o f) := (by0.below hb1).cell 1
    replace h1 := h1.below hb1
    replace h2 := h2.below hb1
    replace h3 := h3.below hb1
    have hsb := hb1.size
    clear hb1 bx0 by0 K0 K1
    go_wp2_with fail
    go_region_held3 (fun w' => Below w1.heap.size w1 w' ∧ w'.cell? ⟨w.heap.size, 0, none⟩ = some (.slice A n c) ∧ w'.cell? ⟨w.heap.size + 1, 0, none⟩ = some (.slice B m d) ∧ w'.cell? ⟨w.heap.size + 1, 1, none⟩ = some (.slice C o f))
      (first | exact ⟨(Below.refl _ _).drew, c0, c1, c2⟩ | exact keepS3 ha1 (by assumption) | exact keepS3 ha2 (by assumption) | assumption)
      ((first | (go_at_call 43; with_reducible (show Calls Tryz.prog 43 #[.agg #[.slice A n c], .slice B m d] _ _); refine (S_TermText A n c xs B m d l _ ?_ ?_ hn (by omega)).mono ?_; exact riS h1 (by assumption); exact riS h2 (by assumption); (first | rw [HV1.out] | rw [HTL.out]); rintro e wa ⟨rfl, ha1⟩) | (go_at_call 43; with_reducible (show Calls Tryz.prog 43 #[.agg #[.slice A n c], .slice C o f] _ _); refine (S_TermText A n c xs C o f r _ ?_ ?_ hn (by omega)).mono ?_; exact riS h1 (by assumption); exact riS h3 (by assumption); (first | rw [HV2.out] | rw [HTR.out]); rintro e wb ⟨rfl, ha2⟩)))
    rename_i hS
    have hb2 := hS.1
    go_wp2_with fail
    go_ret
    rw [HE.out, show TL ++ Pl.arrow ++ TR = T3 ++ TR by rw [hT3.out], ← ByteArray.mk_append_mk]
    exact ⟨rfl, hB1.trans (hb2.mono (by omega))⟩
set_option maxHeartbeats 2000000 in
set_option maxRecDepth 20000 in
theorem I_RuleText (A : Option Addr) (n c : Nat) (xs : List Int) (B : Option Addr) (m d : Nat) (l : List Int) (C : Option Addr) (o f : Nat) (r : List Int) (w : World) (h : RI w A n xs) (h' : RI w B m l) (h'' : RI w C o r) (hn : n ≤ 1048576) (hs : m + o ≤ 1048576) :
    Calls Tryz.prog 8 #[.agg #[.slice A n c], .agg #[.slice B m d, .slice C o f]] w fun e w' => e = .returned (.string ⟨(V_RuleText xs l r).toArray⟩) ∧ Below w.heap.size w w' := by
  have hB0 : Below w.heap.size w ((w.alloc (.cells #[.slice A n c] 26)).alloc (.cells #[.slice B m d, .slice C o f] 30)) := ((Below.refl _ _).alloc (Nat.le_refl _) _).alloc (by simp) _
  have bx0 := (Blk.new w 26 #[.slice A n c]).alloc (.cells #[.slice B m d, .slice C o f] 30)
  have by0 : Blk ((w.alloc (.cells #[.slice A n c] 26)).alloc (.cells #[.slice B m d, .slice C o f] 30)) (w.heap.size + 1) 30 #[.slice B m d, .slice C o f] := by
    have := Blk.new (w.alloc (.cells #[.slice A n c] 26)) 30 #[.slice B m d, .slice C o f]
    rwa [World.size_alloc] at this
  have h1 := h.below hB0
  have h2 := h'.below hB0
  have h3 := h''.below hB0
  have hsz : ((w.alloc (.cells #[.slice A n c] 26)).alloc (.cells #[.slice B m d, .slice C o f] 30)).heap.size = w.heap.size + 1 + 1 := by simp
  have K0 : ∀ i, ((w.alloc (.cells #[.slice A n c] 26)).alloc (.cells #[.slice B m d, .slice C o f] 30)).cell? ⟨w.heap.size, i, none⟩ = #[Value.slice A n c][i]? := fun i => bx0.cell i
  have K1 : ∀ i, ((w.alloc (.cells #[.slice A n c] 26)).alloc (.cells #[.slice B m d, .slice C o f] 30)).cell? ⟨w.heap.size + 1, i, none⟩ = #[Value.slice B m d, .slice C o f][i]? := fun i => by0.cell i
  cases hk : ruleOk xs l r
  · have HE := Lib.hid (V_RuleText_no hk)
    have HK := Lib.hid hk
    clear hk
    go_enter Tryz.func8, Tryz.ntmps8
    go_wp2_with fail
    generalize (w.alloc (.cells #[.slice A n c] 26)).alloc (.cells #[.slice B m d, .slice C o f] 30) = W at *
    refine (I_RuleOk A n c xs B m d l C o f r W h1 h2 h3 hn hs).mono ?_
    rintro e w1 ⟨rfl, hb1⟩
    rw [HK.out]
    go_wp2_with fail
    go_ret
    rw [HE.out]
    exact ⟨rfl, hB0.trans (hb1.mono (by omega))⟩
  · have HE := Lib.hid (V_RuleText_yes hk)
    obtain ⟨hT1, hT2⟩ := ruleOk_terms hk
    obtain ⟨TL, hTL⟩ : ∃ TL : List UInt8, Pl.txt xs l 0 = TL := ⟨_, rfl⟩
    obtain ⟨TR, hTR⟩ : ∃ TR : List UInt8, Pl.txt xs r 0 = TR := ⟨_, rfl⟩
    have hl1 := (Pl.txt_tk hT1).2
    have hl2 := (Pl.txt_tk hT2).2
    rw [hTL] at hl1
    rw [hTR] at hl2
    rw [hTL, hTR] at HE
    have HTL := Lib.hid hTL
    have HTR := Lib.hid hTR
    have HV1 := Lib.hid ((V_TermText_yes hT1).trans hTL)
    have HV2 := Lib.hid ((V_TermText_yes hT2).trans hTR)
    have HT1 := Lib.hid hT1
    have HT2 := Lib.hid hT2
    have HK := Lib.hid hk
    obtain ⟨T3, hT3⟩ : ∃ T3 : List UInt8, Hid (T3 = TL ++ Pl.arrow) := ⟨_, Lib.hid rfl⟩
    have hT3l : T3.length ≤ 303 := by rw [hT3.out, List.length_append]; simp [Pl.arrow]; omega
    have hadd : (⟨TL.toArray⟩ : ByteArray) ++ ⟨#[32, 45, 62, 32]⟩ = ⟨T3.toArray⟩ := by rw [hT3.out, show (⟨#[32, 45, 62, 32]⟩ : ByteArray) = ⟨Pl.arrow.toArray⟩ from rfl, ByteArray.mk_append_mk]
    have had1 : ¬ 9223372036854775807 < TL.length + 4 := by omega
    have had2 : ¬ 9223372036854775807 < T3.length + TR.length := by omega
    clear hk hTL hTR hT1 hT2
    go_enter Tryz.func8, Tryz.ntmps8
    go_wp2_with fail
    generalize (w.alloc (.cells #[.slice A n c] 26)).alloc (.cells #[.slice B m d, .slice C o f] 30) = W at *
    refine (I_RuleOk A n c xs B m d l C o f r W h1 h2 h3 hn hs).mono ?_
    rintro e w1 ⟨rfl, hb1⟩
    rw [HK.out]
    have hB1 := hB0.trans (hb1.mono (by omega))
    have c0 : w1.cell? ⟨w.heap.size, 0, none⟩ = some (.slice A n c) := (bx0.below hb1).cell 0
    have c1 : w1.cell? ⟨w.heap.size + 1, 0, none⟩ = some (.slice B m d) := (by0.below hb1).cell 0
    have c2 : w1.cell? ⟨w.heap.size + 1, 1, none⟩ = some (.slice C o f) := (by0.below hb1).cell 1
    replace h1 := h1.below hb1
    replace h2 := h2.below hb1
    replace h3 := h3.below hb1
    have hsb := hb1.size
    clear hb1 bx0 by0 K0 K1
    go_wp2_with fail
    go_region_held3 (fun w' => Below w1.heap.size w1 w' ∧ w'.cell? ⟨w.heap.size, 0, none⟩ = some (.slice A n c) ∧ w'.cell? ⟨w.heap.size + 1, 0, none⟩ = some (.slice B m d) ∧ w'.cell? ⟨w.heap.size + 1, 1, none⟩ = some (.slice C o f))
      (first | exact ⟨(Below.refl _ _).drew, c0, c1, c2⟩ | exact keepS3 ha1 (by assumption) | exact keepS3 ha2 (by assumption) | assumption)
      ((first | (go_at_call 26; with_reducible (show Calls Tryz.prog 26 #[.agg #[.slice A n c], .slice B m d] _ _); refine (text_any A n c xs B m d l _ ?_ ?_ HT1.out hn (by omega)).mono ?_; exact riS h1 (by assumption); exact riS h2 (by assumption); (first | rw [HV1.out] | rw [HTL.out]); rintro e wa ⟨rfl, ha1⟩) | (go_at_call 26; with_reducible (show Calls Tryz.prog 26 #[.agg #[.slice A n c], .slice C o f] _ _); refine (text_any A n c xs C o f r _ ?_ ?_ HT2.out hn (by omega)).mono ?_; exact riS h1 (by assumption); exact riS h3 (by assumption); (first | rw [HV2.out] | rw [HTR.out]); rintro e wb ⟨rfl, ha2⟩)))
    rename_i hS
    have hb2 := hS.1
    go_wp2_with fail
    go_ret
    rw [HE.out, show TL ++ Pl.arrow ++ TR = T3 ++ TR by rw [hT3.out], ← ByteArray.mk_append_mk]
    exact ⟨rfl, hB1.trans (hb2.mono (by omega))⟩
end Go.Proofs.YtlcchafcgidpeaaGreatDoor
