/- Contracts: the text of a term, by a Builder. -/
import Derived.Test.YtlcchafcgidpeaaDoorTxtC
import Derived.Test.YtlcchafcgidpeaaDoorDraw
import Derived.Lib.AppendIntMem
namespace Go.Proofs.YtlcchafcgidpeaaDoor
open Go.RowKit
open Go.Lib (decDigits byteCells IsBuilderF BuilderAtF OthersKept)
set_option linter.unusedVariables false
set_option linter.unusedSimpArgs false

theorem bc_app (a b : List UInt8) : byteCells (a ++ b) = byteCells a ++ byteCells b := by simp [byteCells]
theorem bc_str (s : ByteArray) : Go.Lib.strCells s = byteCells s.data.toList := rfl
theorem bc_len (a : List UInt8) : (byteCells a).length = a.length := by simp [byteCells]
theorem Blk.others {w w' : World} {g b : Nat} {t e : TypeId} {cs : Array Value} (h : Blk w g t cs) (hk : OthersKept e (some b) w w') (hg : g ≠ b) (ht : t ≠ e) : Blk w' g t cs :=
  hk g _ h (by simpa using hg) (fun c fz he => ht (by simp only [Obj.cells.injEq] at he; exact he.2.1))
theorem bld_lt {T e : TypeId} {B b : Nat} {bs : List Value} {w : World} (h : IsBuilderF T e B b bs w) : b < w.heap.size ∧ B ≤ b := by
  have : ∀ {p : Value}, BuilderAtF T e B b p bs w → b < w.heap.size ∧ B ≤ b := by
    rintro p ⟨hB, v, hb, _⟩
    exact ⟨(Array.getElem?_eq_some_iff.1 hb).1, hB⟩
  rcases h with h | h
  · exact this h
  · exact this h
set_option maxHeartbeats 4000000 in
set_option maxRecDepth 20000 in
theorem termText_k (A : Option Addr) (n c : Nat) (xs : List Int) (T : Option Addr) (m d : Nat) (t : List Int) (hT : Pl.termOk xs t = true) (hm : m ≤ 1048576) (hn : n ≤ 1048576) (B b : Nat) (fA : 0 < n → ∀ a, A = some a → a.block < B) (fT : 0 < m → ∀ a, T = some a → a.block < B) : ∀ (k p : Nat) (pre : List UInt8) (w : World)
    (h : RI w A n xs) (h' : RI w T m t) (hI : IsBuilderF 106 5 B b (byteCells pre) w) (hBw : B ≤ w.heap.size) (hp : p < m) (hk : m - p ≤ k) (hlen : pre.length + (Pl.txt xs t p).length ≤ 1000),
    Calls Tryd.prog 89 #[.pointer (some ⟨b, 0, none⟩), .agg #[.slice A n c], .slice T m d, .int .i64 p] w fun e w' => e = .returned (.int .i64 (Pl.fin (Pl.ari xs) t p : Nat)) ∧ IsBuilderF 106 5 B b (byteCells (pre ++ Pl.txt xs t p)) w' ∧ Below B w w' ∧ OthersKept 5 (some b) w w' := by
  intro k
  induction k with
  | zero => intro p pre w h h' hI hBw hp hk hlen; omega
  | succ k ih =>
    intro p pre w h h' hI hBw hp hk hlen
    have hl := h'.1
    obtain ⟨hbl, hBb⟩ := bld_lt hI
    obtain ⟨g, off, x, hTe, hc, hx⟩ := h'.at_ hp
    have hxr := Pl.termOk_bd hT (t.getD p 0) (Pl.getD_mem (by omega))
    rw [← hx.out] at hxr
    subst hTe
    have hcA := keepC ((Below.refl w.heap.size w).alloc (Nat.le_refl _) (.cells #[.slice A n c] 30)) hc
    have hI0 := hI.alloc (.cells #[.slice A n c] 30)
    have hB0 : Below B w (w.alloc (.cells #[.slice A n c] 30)) := (Below.refl _ _).alloc hBw _
    have hO0 := (OthersKept.refl 5 (some b) w).alloc (.cells #[.slice A n c] 30)
    have bk0 := Blk.new w 30 #[.slice A n c]
    have hs0 : (w.alloc (.cells #[.slice A n c] 30)).heap.size = w.heap.size + 1 := by simp
    by_cases hx0 : x < 0
    · obtain ⟨e1, _, e2⟩ := Pl.txt_var hT (p := p) (by omega) (by rw [← hx.out]; exact hx0)
      rw [← hx.out] at e1
      have hp1000 : p ≤ 1000000000 := by omega
      have HE := Lib.hid e1
      have HF := Lib.hid e2
      obtain ⟨u, hu⟩ : ∃ u : Nat, (-1 - x) = u := ⟨(-1 - x).toNat, by omega⟩
      have hu2 : (-1 - x).toNat = u := by omega
      rw [hu2] at HE
      have hud := dec_two (u := u) (by omega)
      obtain rfl : x = -1 - (u : Int) := by omega
      have hu3 : -1 - (-1 - (u : Int)) = u := by omega
      clear e1 e2 hu hu2 hx hc
      go_enter Tryd.func89, Tryd.ntmps89
      go_wp2_with fail
      generalize w.alloc (.cells #[.slice A n c] 30) = W at *
      refine (num_any u (by omega) W).mono ?_
      rintro e w1 ⟨rfl, rfl⟩
      have hstr : (⟨#[120]⟩ : ByteArray) ++ ⟨(decDigits u).toArray⟩ = ⟨(120 :: decDigits u).toArray⟩ := by rw [show (⟨#[120]⟩ : ByteArray) = ⟨[120].toArray⟩ from rfl, ByteArray.mk_append_mk]; rfl
      have hpl : pre.length ≤ 1000 := by omega
      go_wp2_with fail
      refine (Tryd.Builder_WriteString_k B b (byteCells pre) ⟨(120 :: decDigits u).toArray⟩ w1 hI0 (by rw [bc_len]; simp [ByteArray.size]; omega) (by omega)).mono ?_
      rintro e w2 ⟨rfl, hAt, hb2, ho2⟩
      rw [bc_str, ← bc_app] at hAt
      have HI := Lib.hid (show IsBuilderF 106 5 B b (byteCells (pre ++ (120 :: decDigits u))) w2 from Or.inr hAt)
      clear hAt
      go_wp2_with fail
      go_ret
      rw [HE.out, HF.out]
      exact ⟨by go_num, HI.out, hB0.trans hb2, hO0.trans ho2⟩
    · obtain ⟨y, rfl⟩ : ∃ y : Nat, x = y := ⟨x.toNat, by omega⟩
      obtain ⟨hyl, hya, hal, e1⟩ := Pl.txt_sym hT (p := p) (x := y) (by omega) hx.out.symm
      obtain ⟨_, hrun, hF1, hF2⟩ := Pl.args_start (Pl.termOk_iff.1 hT).2.2 (p := p) (by omega)
      have hLl := Pl.argsFrom_length (Pl.ari xs) t (Pl.ari xs (t.getD p 0)).toNat (p + 1)
      have hL0 : Pl.args (Pl.ari xs) t p = Pl.argsFrom (Pl.ari xs) t (Pl.ari xs (t.getD p 0)).toNat (p + 1) := rfl
      rw [← hL0] at hLl
      rw [← hLl] at hrun hL0
      obtain ⟨g1, off1, r, hAe, hr, hr2⟩ := h.at_ (k := y) (by have := h.1; omega)
      have hyn : y < n := by have := h.1; omega
      subst hAe
      obtain rfl : r = ((Pl.args (Pl.ari xs) t p).length : Int) := hr2.out.trans hya
      have hg1 : g1 < B := fA (by have := h.1; omega) _ rfl
      have hpl := fun j hj => Pl.part_le (Pl.txt xs t) (Pl.args (Pl.ari xs) t p) j hj
      have hlen2 : pre.length + (1 + (decDigits y).length) + (Pl.brack (Pl.txt xs t) (Pl.args (Pl.ari xs) t p)).length ≤ 1000 := by
        rw [e1, List.length_append, List.length_cons] at hlen
        omega
      have hlen3 : pre.length + (1 + (decDigits y).length) + (Pl.part (Pl.txt xs t) (Pl.args (Pl.ari xs) t p)).length + (if (Pl.args (Pl.ari xs) t p).length = 0 then 0 else 1) ≤ 1000 := by
        unfold Pl.brack at hlen2
        rw [List.length_append] at hlen2
        by_cases h0 : (Pl.args (Pl.ari xs) t p).length = 0
        · rw [if_pos h0] at hlen2 ⊢
          rw [List.length_nil] at hlen2
          omega
        · rw [if_neg h0] at hlen2 ⊢
          rw [show ([41] : List UInt8).length = 1 from rfl] at hlen2
          omega
      have HE := Lib.hid e1
      have HP := Lib.hid hpl
      have HLEN := Lib.hid hlen3
      have HRUN := Lib.hid hrun
      have HL0 := Lib.hid hL0
      have hdd := dec_two (u := y) (by omega)
      clear e1 hpl hlen hlen2 hlen3 hrun hL0 hLl hya hyl hx hr2 hc
      generalize Pl.args (Pl.ari xs) t p = L at *
      obtain ⟨F, hFe⟩ : ∃ F : Nat, F = Pl.fin (Pl.ari xs) t p := ⟨_, rfl⟩
      rw [← hFe] at HRUN hF1 hF2
      have HFE := Lib.hid hFe
      clear hFe
      have hFm : F ≤ 1048576 := by omega
      go_enter Tryd.func89, Tryd.ntmps89
      go_wp2_with fail
      generalize w.alloc (.cells #[.slice (some ⟨g1, off1, none⟩) n c] 30) = W at *
      refine (num_any y (by omega) W).mono ?_
      rintro e w1 ⟨rfl, rfl⟩
      obtain ⟨H0, hH0⟩ : ∃ H0 : List UInt8, Hid (H0 = 102 :: decDigits y) := ⟨_, Lib.hid rfl⟩
      have hHl : H0.length = 1 + (decDigits y).length := by rw [hH0.out, List.length_cons]; omega
      have hstr : (⟨#[102]⟩ : ByteArray) ++ ⟨(decDigits y).toArray⟩ = ⟨H0.toArray⟩ := by rw [hH0.out, show (⟨#[102]⟩ : ByteArray) = ⟨[102].toArray⟩ from rfl, ByteArray.mk_append_mk]; rfl
      have hpl : pre.length ≤ 1000 := by have := HLEN.out; omega
      go_wp2_with fail
      refine (Tryd.Builder_WriteString_k B b (byteCells pre) ⟨H0.toArray⟩ w1 hI0 (by rw [bc_len]; simp [ByteArray.size]; omega) (by omega)).mono ?_
      rintro e w2 ⟨rfl, hAt, hb2, ho2⟩
      rw [bc_str, ← bc_app] at hAt
      have HI := Lib.hid (show IsBuilderF 106 5 B b (byteCells (pre ++ H0)) w2 from Or.inr hAt)
      have bk2 := bk0.others ho2 (by omega) (by decide)
      have hB2 := hB0.trans hb2
      have hO2 := hO0.trans ho2
      have hs2 := hb2.size
      have K2 : ∀ i, w2.cell? ⟨w.heap.size, i, none⟩ = #[Value.slice (some ⟨g1, off1, none⟩) n c][i]? := fun i => bk2.cell i
      have hr2 : w2.cell? ⟨g1, off1 + y, none⟩ = some (.int .i64 (L.length : Int)) := (hB2.cell (p := ⟨g1, off1 + y, none⟩) hg1).trans hr
      have hs2b : w.heap.size + 1 ≤ w2.heap.size := by have := bk2.lt; omega
      clear hAt hb2 ho2 bk0 hB0 hO0 hI0 hcA hstr
      go_wp2_with fail
      go_loopw [3, 10, 37] (fun u v i wr => ∃ (j q : Nat), j ≤ L.length ∧ i = .int .i64 j ∧ u = .int .i64 q ∧ Hid (L.drop j = Pl.argsFrom (Pl.ari xs) t (L.length - j) q) ∧ Hid (Pl.run (Pl.ari xs) (L.length - j) (t.drop q) = some (F - q)) ∧ q ≤ F ∧ p < q ∧ Hid (IsBuilderF 106 5 B b (byteCells (pre ++ H0 ++ Pl.part (Pl.txt xs t) (L.take j))) wr) ∧ Blk wr w.heap.size 30 #[.slice (some ⟨g1, off1, none⟩) n c] ∧ Below B w wr ∧ OthersKept 5 (some b) w wr) (fun _ _ i _ => L.length - (intOf i).toNat)
      case atStart => exact ⟨0, p + 1, Nat.zero_le _, rfl, by go_num, HL0, HRUN, hF1, by omega, Lib.hid (by simpa [Pl.part] using HI.out), bk2, hB2, hO2⟩
      case round =>
        clear HI bk2 hB2 hO2 K2 hr2
        obtain ⟨j, q, hj, rfl, rfl, HD, HR, hqF, hpq, HI, bk, hB, hO⟩ := hrel
        have hsr := bk.lt
        have KX : ∀ i, wr.cell? ⟨w.heap.size, i, none⟩ = #[Value.slice (some ⟨g1, off1, none⟩) n c][i]? := fun i => bk.cell i
        have hrr : wr.cell? ⟨g1, off1 + y, none⟩ = some (.int .i64 (L.length : Int)) := (hB.cell (p := ⟨g1, off1 + y, none⟩) hg1).trans hr
        by_cases hlt : j < L.length
        · obtain ⟨c1, hc1⟩ : ∃ c1, L.length - j = c1 + 1 := ⟨L.length - j - 1, by omega⟩
          have hdj := HD.out
          have hrj := HR.out
          rw [hc1] at hdj hrj
          obtain ⟨n1, n2, n3, n4⟩ := Pl.args_next hrj (by omega)
          have hgd : L.getD j 0 = q := by
            have e := congrArg (fun l => l.getD 0 0) hdj
            simp only [Pl.argsFrom, List.getD_cons_zero] at e
            rw [← e]
            simp [List.getD_eq_getElem?_getD]
          have hd2 : L.drop (j + 1) = Pl.argsFrom (Pl.ari xs) t (L.length - (j + 1)) (Pl.fin (Pl.ari xs) t q) := by
            rw [← List.drop_drop, hdj, show L.length - (j + 1) = c1 by omega]
            rfl
          have hr3 : Pl.run (Pl.ari xs) (L.length - (j + 1)) (t.drop (Pl.fin (Pl.ari xs) t q)) = some (F - Pl.fin (Pl.ari xs) t q) := by
            rw [show L.length - (j + 1) = c1 by omega, n4]
            congr 1
            omega
          have HS := Lib.hid (Pl.part_step (Pl.txt xs t) hlt)
          rw [hgd] at HS
          have hpj := HP.out (j + 1) hlt
          have hpl2 : pre.length + H0.length + (Pl.part (Pl.txt xs t) (L.take j)).length + 1 + (Pl.txt xs t q).length ≤ 1000 := by
            have e := HS.out
            have e2 := congrArg List.length e
            rw [List.length_append, List.length_cons] at e2
            have := HLEN.out
            omega
          have HPL := Lib.hid hpl2
          have hql : q < m := by omega
          have HD2 := Lib.hid hd2
          have HR2 := Lib.hid hr3
          have hfq : q < Pl.fin (Pl.ari xs) t q ∧ Pl.fin (Pl.ari xs) t q ≤ F := by omega
          obtain ⟨P0, hP0⟩ : ∃ P0 : List UInt8, Hid (P0 = pre ++ H0 ++ Pl.part (Pl.txt xs t) (L.take j)) := ⟨_, Lib.hid rfl⟩
          rw [← hP0.out] at HI
          have hP0l : P0.length + 1 + (Pl.txt xs t q).length ≤ 1000 := by rw [hP0.out, List.length_append, List.length_append]; exact hpl2
          clear hdj hrj n1 n2 n3 n4 hgd hd2 hr3 hpj hpl2 hc1 HD HR
          by_cases hj0 : j = 0
          · subst hj0
            have HS0 : Hid (P0 ++ [40] ++ Pl.txt xs t q = pre ++ H0 ++ Pl.part (Pl.txt xs t) (L.take (0 + 1))) := Lib.hid (by rw [HS.out, hP0.out]; simp)
            go_wp2_with fail
            refine (Tryd.Builder_WriteByte_k B b (byteCells P0) 40 wr HI.out (by rw [bc_len]; omega) (by omega)).mono ?_
            rintro e w3 ⟨rfl, hAt, hb3, ho3⟩
            have HI3 := Lib.hid (show IsBuilderF 106 5 B b (byteCells (P0 ++ [40])) w3 from Or.inr (by rw [bc_app]; exact hAt))
            have bk3 := bk.others ho3 (by omega) (by decide)
            have hB3 := hB.trans hb3
            have hO3 := hO.trans ho3
            have hs3 := hb3.size
            have K3 : ∀ i, w3.cell? ⟨w.heap.size, i, none⟩ = #[Value.slice (some ⟨g1, off1, none⟩) n c][i]? := fun i => bk3.cell i
            clear hAt hb3 ho3 HI bk hB hO KX hrr
            go_wp2_with fail
            refine (ih q (P0 ++ [40]) w3 (h.belowB fA hB3) (h'.belowB fT hB3) HI3.out (by omega) hql (by omega) (by rw [List.length_append]; exact hP0l)).mono ?_
            rintro e w4 ⟨rfl, hI4, hb4, ho4⟩
            rw [(HS0).out] at hI4
            have HI4 := Lib.hid hI4
            have bk4 := bk3.others ho4 (by omega) (by decide)
            have hB4 := hB3.trans hb4
            have hO4 := hO3.trans ho4
            clear hI4 hb4 ho4 HI3 bk3 hB3 hO3 K3
            go_wp2_with fail
            go_roundw
            case rel => exact ⟨(0) + 1, Pl.fin (Pl.ari xs) t q, by omega, by go_num, rfl, HD2, HR2, hfq.2, by omega, HI4, bk4, hB4, hO4⟩
            case measure => simp [intOf]; omega
          · have HS0 : Hid (P0 ++ [44] ++ Pl.txt xs t q = pre ++ H0 ++ Pl.part (Pl.txt xs t) (L.take (j + 1))) := Lib.hid (by rw [HS.out, hP0.out, if_neg hj0]; simp)
            go_wp2_with fail
            refine (Tryd.Builder_WriteByte_k B b (byteCells P0) 44 wr HI.out (by rw [bc_len]; omega) (by omega)).mono ?_
            rintro e w3 ⟨rfl, hAt, hb3, ho3⟩
            have HI3 := Lib.hid (show IsBuilderF 106 5 B b (byteCells (P0 ++ [44])) w3 from Or.inr (by rw [bc_app]; exact hAt))
            have bk3 := bk.others ho3 (by omega) (by decide)
            have hB3 := hB.trans hb3
            have hO3 := hO.trans ho3
            have hs3 := hb3.size
            have K3 : ∀ i, w3.cell? ⟨w.heap.size, i, none⟩ = #[Value.slice (some ⟨g1, off1, none⟩) n c][i]? := fun i => bk3.cell i
            clear hAt hb3 ho3 HI bk hB hO KX hrr
            go_wp2_with fail
            refine (ih q (P0 ++ [44]) w3 (h.belowB fA hB3) (h'.belowB fT hB3) HI3.out (by omega) hql (by omega) (by rw [List.length_append]; exact hP0l)).mono ?_
            rintro e w4 ⟨rfl, hI4, hb4, ho4⟩
            rw [(HS0).out] at hI4
            have HI4 := Lib.hid hI4
            have bk4 := bk3.others ho4 (by omega) (by decide)
            have hB4 := hB3.trans hb4
            have hO4 := hO3.trans ho4
            clear hI4 hb4 ho4 HI3 bk3 hB3 hO3 K3
            go_wp2_with fail
            go_roundw
            case rel => exact ⟨(j) + 1, Pl.fin (Pl.ari xs) t q, by omega, by go_num, rfl, HD2, HR2, hfq.2, by omega, HI4, bk4, hB4, hO4⟩
            case measure => simp [intOf]; omega
        · obtain rfl : j = L.length := by omega
          have hqe : q = F := by
            have := HR.out
            rw [Nat.sub_self, Pl.run_zero] at this
            injection this with this
            omega
          subst hqe
          have hI2 := HI.out
          rw [List.take_length] at hI2
          have HI2 := Lib.hid hI2
          clear hI2 HI HD HR
          by_cases h0 : L.length = 0
          · have HZ : Hid (pre ++ Pl.txt xs t p = pre ++ H0 ++ Pl.part (Pl.txt xs t) L) := Lib.hid (by rw [HE.out, hH0.out]; unfold Pl.brack; rw [if_pos h0]; simp)
            have h0i : (L.length : Int) = 0 := by omega
            go_wp2_with fail
            go_ret
            rw [HZ.out, ← HFE.out]
            exact ⟨by go_num, HI2.out, hB, hO⟩
          · have HZ : Hid (pre ++ Pl.txt xs t p = pre ++ H0 ++ Pl.part (Pl.txt xs t) L ++ [41]) := Lib.hid (by rw [HE.out, hH0.out]; unfold Pl.brack; rw [if_neg h0]; simp)
            have hl4 : (pre ++ H0 ++ Pl.part (Pl.txt xs t) L).length + 1 ≤ 1001 := by
              have := HLEN.out
              rw [List.length_append, List.length_append]
              omega
            have hpos : 0 < L.length := by omega
            have hpos2 : (0 : Int) < (L.length : Int) := by omega
            obtain ⟨P1, hP1⟩ : ∃ P1 : List UInt8, Hid (P1 = pre ++ H0 ++ Pl.part (Pl.txt xs t) L) := ⟨_, Lib.hid rfl⟩
            rw [← hP1.out] at HI2 hl4 HZ
            go_wp2_with fail
            refine (Tryd.Builder_WriteByte_k B b (byteCells P1) 41 wr HI2.out (by rw [bc_len]; omega) (by omega)).mono ?_
            rintro e w3 ⟨rfl, hAt, hb3, ho3⟩
            have HI3 := Lib.hid (show IsBuilderF 106 5 B b (byteCells (P1 ++ [41])) w3 from Or.inr (by rw [bc_app]; exact hAt))
            clear hAt
            go_wp2_with fail
            go_ret
            rw [HZ.out, ← HFE.out]
            exact ⟨by go_num, HI3.out, hB.trans hb3, hO.trans ho3⟩
end Go.Proofs.YtlcchafcgidpeaaDoor
