/- Contracts: the text of a term, both sides. -/
import Derived.Test.YtlcchafcgidpeaaDoorStrN
import Derived.Test.YtlcchafcgidpeaaDoorArgs
import Derived.Test.YtlcchafcgidpeaaDoorPlace2
import Derived.Deep.RegionHeld3
namespace Go.Proofs.YtlcchafcgidpeaaDoor
open Go.RowKit
open Go.Lib (decDigits byteCells)
set_option linter.unusedVariables false
set_option linter.unusedSimpArgs false

namespace Pl
theorem part_le (g : Nat → List UInt8) (L : List Nat) : ∀ j, j ≤ L.length → (part g (L.take j)).length ≤ (part g L).length := by
  have : ∀ d j, j + d = L.length → (part g (L.take j)).length ≤ (part g L).length := by
    intro d
    induction d with
    | zero => intro j hj; rw [List.take_of_length_le (by omega)]; exact Nat.le_refl _
    | succ d ih =>
      intro j hj
      have h1 := ih (j + 1) (by omega)
      rw [part_step g (by omega : j < L.length), List.length_append] at h1
      omega
  intro j hj
  exact this (L.length - j) j (by omega)
theorem ari_of {ar : List Int} {x : Int} (h0 : 0 ≤ x) (h1 : x < ar.length) : ari ar x = ar.getD x.toNat 0 := by
  unfold ari
  rw [if_neg (by omega), if_pos h1]
theorem ari_neg {ar : List Int} {x : Int} (h0 : x < 0) (h1 : -24 ≤ x) : ari ar x = 0 := by
  unfold ari
  rw [if_pos h0, if_neg (by omega)]
theorem txt_var {ar t : List Int} (h : termOk ar t = true) {p : Nat} (hp : p < t.length) (hx : t.getD p 0 < 0) : txt ar t p = 120 :: decDigits (-1 - t.getD p 0).toNat ∧ args (ari ar) t p = [] ∧ fin (ari ar) t p = p + 1 := by
  have hb := termOk_ge h _ (getD_mem hp)
  have e := ari_neg (ar := ar) hx hb.1
  have ea : args (ari ar) t p = [] := by unfold args; rw [e]; rfl
  refine ⟨?_, ea, ?_⟩
  · rw [txt_eq h hp, ea]
    unfold tok brack part
    rw [if_pos hx]
    simp
  · have := (args_start (termOk_iff.1 h).2.2 hp).2
    rw [e] at this
    rw [show (0 : Int).toNat = 0 from rfl, run_zero] at this
    have h1 := this.1
    injection h1 with h1
    omega
theorem txt_sym {ar t : List Int} (h : termOk ar t = true) {p : Nat} (hp : p < t.length) {x : Nat} (hx : t.getD p 0 = x) : x < ar.length ∧ ar.getD x 0 = (args (ari ar) t p).length ∧ (args (ari ar) t p).length ≤ 3 ∧
    txt ar t p = 102 :: decDigits x ++ brack (txt ar t) (args (ari ar) t p) := by
  have hb := termOk_ge h _ (getD_mem hp)
  rw [hx] at hb
  have hlt : x < ar.length := by omega
  have e := ari_of (ar := ar) (x := x) (by omega) hb.2
  have hs := (sigOk_iff.1 (termOk_iff.1 h).1).2 _ (getD_mem hlt)
  have ea : (args (ari ar) t p).length = (ar.getD x 0).toNat := by unfold args; rw [argsFrom_length, hx, e]; rfl
  refine ⟨hlt, by omega, by omega, ?_⟩
  rw [txt_eq h hp, hx]
  unfold tok
  rw [if_neg (by omega)]
  rfl
end Pl

theorem RI.belowB {w w' : World} {B : Nat} {A : Option Addr} {n : Nat} {xs : List Int} (h : RI w A n xs) (hf : 0 < n → ∀ a, A = some a → a.block < B) (hb : Below B w w') : RI w' A n xs := by
  refine ⟨h.1, fun hn => ?_⟩
  obtain ⟨g, off, hA, hc⟩ := h.2 hn
  have := hf hn _ hA
  exact ⟨g, off, hA, fun k hk => (hb.cell (p := ⟨g, off + k, none⟩) this).trans (hc k hk)⟩
theorem RI.lt {w : World} {A : Option Addr} {n : Nat} {xs : List Int} (h : RI w A n xs) : 0 < n → ∀ a, A = some a → a.block < w.heap.size := by
  intro hn a ha
  obtain ⟨g, off, hA, hc⟩ := h.2 hn
  rw [hA] at ha
  injection ha with ha
  subst ha
  exact World.block_lt_of_cell? w _ (hc 0 hn)
set_option maxHeartbeats 4000000 in
set_option maxRecDepth 20000 in
theorem l10Text_k (A : Option Addr) (n c : Nat) (xs : List Int) (B : Option Addr) (m d : Nat) (t : List Int) (hT : Pl.termOk xs t = true) (hm : m ≤ 1048576) (hn : n ≤ 1048576) : ∀ (k p : Nat) (w : World)
    (h : RI w A n xs) (h' : RI w B m t) (hp : p < m) (hk : m - p ≤ k),
    Calls Tryd.prog 57 #[.agg #[.slice A n c], .slice B m d, .int .i64 p] w fun e w' => e = .returned (.string ⟨(Pl.txt xs t p).toArray⟩) ∧ Below w.heap.size w w' := by
  intro k
  induction k with
  | zero => intro p w h h' hp hk; omega
  | succ k ih =>
    intro p w h h' hp hk
    have hl := h'.1
    obtain ⟨g, off, x, hBe, hc, hx⟩ := h'.at_ hp
    have hxr := Pl.termOk_bd hT (t.getD p 0) (Pl.getD_mem (by omega))
    rw [← hx.out] at hxr
    have h'0 := h'
    subst hBe
    by_cases hx0 : x < 0
    · obtain ⟨e1, _, _⟩ := Pl.txt_var hT (p := p) (by omega) (by rw [← hx.out]; exact hx0)
      rw [← hx.out] at e1
      have HE := Lib.hid e1
      obtain ⟨u, hu⟩ : ∃ u : Nat, (-1 - x) = u := ⟨(-1 - x).toNat, by omega⟩
      have hu2 : (-1 - x).toNat = u := by omega
      rw [hu2] at HE
      have hud := dec_two (u := u) (by omega)
      obtain rfl : x = -1 - (u : Int) := by omega
      have hu3 : -1 - (-1 - (u : Int)) = u := by omega
      have hcA := keepC ((Below.refl w.heap.size w).alloc (Nat.le_refl _) (.cells #[.slice A n c] 30)) hc
      clear e1 hu hu2 hx
      go_enter Tryd.func57, Tryd.ntmps57
      go_wp2_with fail
      refine (l1Int_any u (by omega) _).mono ?_
      rintro e w1 ⟨rfl, hb1⟩
      go_wp2_with fail
      go_ret
      rw [HE.out]
      exact ⟨by rw [show (⟨#[120]⟩ : ByteArray) = ⟨[120].toArray⟩ from rfl, ByteArray.mk_append_mk]; rfl, below_then ((Below.refl _ _).alloc (Nat.le_refl _) _) hb1 (by simp)⟩
    · obtain ⟨y, rfl⟩ : ∃ y : Nat, x = y := ⟨x.toNat, by omega⟩
      obtain ⟨hyl, hya, hal, e1⟩ := Pl.txt_sym hT (p := p) (x := y) (by omega) hx.out.symm
      have hmem := Pl.args_mem (Pl.termOk_iff.1 hT).2.2 (p := p) (by rw [hl]; exact hp)
      have htl := Pl.txt_len hT (p := p) (by omega)
      rw [hl] at hmem
      have HT := Lib.hid hT
      have hq : ∀ j, j < (Pl.args (Pl.ari xs) t p).length → p < (Pl.args (Pl.ari xs) t p).getD j 0 ∧ (Pl.args (Pl.ari xs) t p).getD j 0 < m := by
        intro j hj
        have := hmem ((Pl.args (Pl.ari xs) t p).getD j 0) (by rw [List.getD_eq_getElem?_getD, List.getElem?_eq_getElem hj, Option.getD_some]; exact List.getElem_mem hj)
        exact ⟨this.1, this.2.2.1⟩
      have hqx := fun q (hq : q < m) => Pl.txt_len hT (p := q) (by omega)
      clear hmem hya hyl
      have hpl := fun j hj => Pl.part_le (Pl.txt xs t) (Pl.args (Pl.ari xs) t p) j hj
      have hbl : (Pl.part (Pl.txt xs t) (Pl.args (Pl.ari xs) t p)).length ≤ 299 := by
        rw [e1] at htl
        unfold Pl.brack at htl
        simp only [List.length_append, List.length_cons] at htl
        omega
      have HE := Lib.hid e1
      have HX := Lib.hid hqx
      have HP := Lib.hid hpl
      clear e1 hqx hpl htl hx
      generalize hL : Pl.args (Pl.ari xs) t p = L at *
      have HL := Lib.hid hL
      clear hL
      have hdd := dec_two (u := y) (by omega)
      have hcA := keepC ((Below.refl w.heap.size w).alloc (Nat.le_refl _) (.cells #[.slice A n c] 30)) hc
      go_enter Tryd.func57, Tryd.ntmps57
      go_wp2_with fail
      refine (l1Int_any y (by omega) _).mono ?_
      rintro e w1 ⟨rfl, hb1⟩
      have hB : Below w.heap.size w w1 := below_then ((Below.refl _ _).alloc (Nat.le_refl _) _) hb1 (by simp)
      have bx : w1.cell? ⟨w.heap.size, 0, none⟩ = some (.slice A n c) := (hb1.cell (by simp)).trans (by simp)
      replace h := (h.alloc _).below hb1
      replace h' := (h'.alloc _).below hb1
      clear hb1 hc h'0
      go_wp2_with fail
      refine (l1Args_any A n c xs (some ⟨g, off, none⟩) m d t p w1 h h' HT.out hp hm hn).mono ?_
      rw [HL.out]
      rintro e w2 ⟨A', c', rfl, ho, hb2⟩
      have hR := ho.ri
      clear ho
      replace hB := below_then hB hb2 hB.size
      replace bx := keepC hb2 bx
      replace h := h.below hb2
      replace h' := h'.below hb2
      clear hb2
      obtain ⟨H0, hH0⟩ : ∃ H0 : List UInt8, H0 = 102 :: decDigits y := ⟨_, rfl⟩
      have hh0 : (⟨#[102]⟩ : ByteArray) ++ ⟨(decDigits y).toArray⟩ = ⟨H0.toArray⟩ := by rw [hH0, show (⟨#[102]⟩ : ByteArray) = ⟨[102].toArray⟩ from rfl, ByteArray.mk_append_mk]; rfl
      have hhl : H0.length ≤ 3 := by rw [hH0, List.length_cons]; omega
      have HH := Lib.hid hH0
      have HH1 := Lib.hid hh0
      clear hH0 hh0
      go_wp2_with fail
      go_loopw [7, 9] (fun u i wr => ∃ (j : Nat) (s : List UInt8), j ≤ L.length ∧ i = .int .i64 j ∧ u = .string ⟨s.toArray⟩ ∧ s.length ≤ 400 ∧ Hid (s = H0 ++ Pl.part (Pl.txt xs t) (L.take j)) ∧ Below w2.heap.size w2 wr) (fun _ i _ => L.length - (intOf i).toNat)
      case atStart => exact ⟨0, H0, Nat.zero_le _, rfl, by rw [HH1.out], by omega, Lib.hid (by simp [Pl.part]), Below.refl _ _⟩
      case round =>
        obtain ⟨j, s, hj, rfl, rfl, hsl, HS, hb⟩ := hrel
        by_cases hlt : j < L.length
        · obtain ⟨g2, off2, x, rfl, hc, hx⟩ := (hR.below hb).at_ (k := j) hlt
          have hxn : x = (L.getD j 0 : Nat) := by rw [hx.out, nats_getD _ _ hlt]
          have hqj := hq j hlt
          have HS2 := Lib.hid (Pl.part_step (Pl.txt xs t) hlt)
          have hpj := HP.out (j + 1) hlt
          obtain ⟨q, hqe⟩ : ∃ q : Nat, q = L.getD j 0 := ⟨_, rfl⟩
          rw [← hqe] at hxn hqj HS2
          subst hxn
          clear hx hqe
          have hbx := keepC hb bx
          have hq2 := hqj.2
          have hqk : m - q ≤ k := by omega
          have hql := HX.out q hq2
          have hsn : H0.length + (Pl.part (Pl.txt xs t) (L.take (j + 1))).length ≤ 302 := by omega
          have HSN := Lib.hid hsn
          clear hsn hpj
          by_cases hj0 : j = 0
          · subst hj0
            have hc0 : wr.cell? ⟨g2, off2, none⟩ = some (.int .i64 q) := by simpa using hc
            obtain ⟨s2, hs2⟩ : ∃ s2 : List UInt8, Hid (s2 = s ++ [40]) := ⟨_, Lib.hid rfl⟩
            have hs2l : s2.length ≤ 401 := by rw [hs2.out, List.length_append]; simp; omega
            have hs2e : (⟨s.toArray⟩ : ByteArray) ++ ⟨#[40]⟩ = ⟨s2.toArray⟩ := by rw [hs2.out, show (⟨#[40]⟩ : ByteArray) = ⟨[40].toArray⟩ from rfl, ByteArray.mk_append_mk]
            obtain ⟨tq, htq⟩ : ∃ tq : List UInt8, Hid (tq = Pl.txt xs t q) := ⟨_, Lib.hid rfl⟩
            rw [← htq.out] at hql HS2
            have had1 : ¬ 9223372036854775807 < s2.length + tq.length := by omega
            have had2 : s2.length + tq.length ≤ 9223372036854775807 := by omega
            go_wp2_with fail
            go_region_held3 (fun w' => Below wr.heap.size wr w' ∧ w'.cell? ⟨w.heap.size, 0, none⟩ = some (.slice A n c) ∧ w'.cell? ⟨g2, off2, none⟩ = some (.int .i64 q))
              (first | exact ⟨(Below.refl _ _).drew, hbx, hc0⟩ | exact keepS2 hb2 (by assumption) | assumption)
              ((go_at_call 57; refine (ih q _ ?_ ?_ hq2 hqk).mono ?_; exact riS (h.below hb) (by assumption); exact riS (h'.below hb) (by assumption); rw [← htq.out]; rintro e w2 ⟨rfl, hb2⟩))
            rename_i hS
            have hB2 := hb.trans (hS.1.mono hb.size)
            go_wp2_with fail
            go_roundw
            case rel => exact ⟨1, s2 ++ tq, by omega, by go_num, by rw [ByteArray.mk_append_mk], by have := HSN.out; rw [HS2.out] at this; simp [hs2.out, HS.out, Pl.part] at this ⊢; omega, Lib.hid (by rw [HS2.out, hs2.out, HS.out]; simp), hB2⟩
            case measure => simp [intOf]; omega
          · obtain ⟨s2, hs2⟩ : ∃ s2 : List UInt8, Hid (s2 = s ++ [44]) := ⟨_, Lib.hid rfl⟩
            have hs2l : s2.length ≤ 401 := by rw [hs2.out, List.length_append]; simp; omega
            have hs2e : (⟨s.toArray⟩ : ByteArray) ++ ⟨#[44]⟩ = ⟨s2.toArray⟩ := by rw [hs2.out, show (⟨#[44]⟩ : ByteArray) = ⟨[44].toArray⟩ from rfl, ByteArray.mk_append_mk]
            obtain ⟨tq, htq⟩ : ∃ tq : List UInt8, Hid (tq = Pl.txt xs t q) := ⟨_, Lib.hid rfl⟩
            rw [← htq.out] at hql HS2
            have had1 : ¬ 9223372036854775807 < s2.length + tq.length := by omega
            have had2 : s2.length + tq.length ≤ 9223372036854775807 := by omega
            go_wp2_with fail
            go_region_held3 (fun w' => Below wr.heap.size wr w' ∧ w'.cell? ⟨w.heap.size, 0, none⟩ = some (.slice A n c) ∧ w'.cell? ⟨g2, off2 + j, none⟩ = some (.int .i64 q))
              (first | exact ⟨(Below.refl _ _).drew, hbx, hc⟩ | exact keepS2 hb2 (by assumption) | assumption)
              ((go_at_call 57; refine (ih q _ ?_ ?_ hq2 hqk).mono ?_; exact riS (h.below hb) (by assumption); exact riS (h'.below hb) (by assumption); rw [← htq.out]; rintro e w2 ⟨rfl, hb2⟩))
            rename_i hS
            have hB2 := hb.trans (hS.1.mono hb.size)
            go_wp2_with fail
            go_roundw
            case rel => exact ⟨j + 1, s2 ++ tq, by omega, by go_num, by rw [ByteArray.mk_append_mk], by have := HSN.out; rw [HS2.out] at this; simp [hs2.out, HS.out, hj0] at this ⊢; omega, Lib.hid (by rw [HS2.out, hs2.out, HS.out]; simp [hj0]), hB2⟩
            case measure => simp [intOf]; omega
        · have hjl : j = L.length := by omega
          subst hjl
          have HZ : Hid (Pl.txt xs t p = s ++ if L.length = 0 then [] else [41]) := Lib.hid (by rw [HE.out, HS.out, List.take_length, HH.out]; unfold Pl.brack; simp)
          clear HS HE
          by_cases h0 : L.length = 0
          · have hnil : L = [] := List.eq_nil_of_length_eq_zero h0
            subst hnil
            go_wp2_with fail
            go_ret
            rw [HZ.out]
            exact ⟨by simp, below_then hB hb hB.size⟩
          · have hs2e : (⟨s.toArray⟩ : ByteArray) ++ ⟨#[41]⟩ = ⟨(s ++ [41]).toArray⟩ := by rw [show (⟨#[41]⟩ : ByteArray) = ⟨[41].toArray⟩ from rfl, ByteArray.mk_append_mk]
            have h1 : 0 < L.length := by omega
            have HH2 := Lib.hid hs2e
            have HN0 := Lib.hid h0
            clear hs2e h0
            go_wp2_with fail
            go_ret
            rw [HZ.out, if_neg HN0.out, ← HH2.out]
            exact ⟨rfl, below_then hB hb hB.size⟩
end Go.Proofs.YtlcchafcgidpeaaDoor
