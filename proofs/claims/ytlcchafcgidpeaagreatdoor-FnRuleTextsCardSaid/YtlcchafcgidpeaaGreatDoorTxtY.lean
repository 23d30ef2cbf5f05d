/- Contracts: SubstText, the reference's. -/
import Derived.Test.YtlcchafcgidpeaaGreatDoorRuleT
import Derived.Test.YtlcchafcgidpeaaGreatDoorStrN
import Derived.Test.YtlcchafcgidpeaaGreatDoorPlu
import Derived.Test.YtlcchafcgidpeaaGreatDoorSubstOk
import Derived.Test.YtlcchafcgidpeaaGreatDoorMat
import Derived.Deep.RegionHeld3
import Derived.Test.YtlcchafcgidpeaaGreatDoorBase
namespace Go.Proofs.YtlcchafcgidpeaaGreatDoor
open Go.RowKit
open Go.Lib (decDigits)
set_option linter.unusedVariables false
set_option linter.unusedSimpArgs false

/-- What the text tells of a variable's row. -/
def wdOf (xs : List Int) (i : Nat) (t : List Int) : List UInt8 := 120 :: decDigits i ++ [61] ++ Pl.txt xs t 0
/-- The words of the first k rows. -/
def wds (xs : List Int) (x : List (List Int)) : Nat → List (List UInt8)
  | 0 => []
  | k + 1 => if cl1 k (hasV x k) = [] then wds xs x k else wds xs x k ++ [wdOf xs k (cl1 k (hasV x k))]
theorem wds_len (xs : List Int) (x : List (List Int)) : ∀ k, (wds xs x k).length ≤ k
  | 0 => Nat.le_refl _
  | k + 1 => by
    have := wds_len xs x k
    unfold wds
    split
    · omega
    · rw [List.length_append, List.length_singleton]; omega
theorem wds_skip {xs : List Int} {x : List (List Int)} {k : Nat} (h : cl1 k (hasV x k) = []) : wds xs x (k + 1) = wds xs x k := by
  show (if cl1 k (hasV x k) = [] then wds xs x k else _) = _
  rw [if_pos h]
theorem wds_word {xs t : List Int} {x : List (List Int)} {k : Nat} (h : cl1 k (hasV x k) = t) (h2 : t ≠ []) : wds xs x (k + 1) = wds xs x k ++ [wdOf xs k t] := by
  show (if cl1 k (hasV x k) = [] then wds xs x k else _) = _
  rw [h, if_neg h2]
theorem wds_out {xs : List Int} {x : List (List Int)} {m : Nat} (h : ∀ i, m ≤ i → cl1 i (hasV x i) = []) : ∀ d, wds xs x (m + d) = wds xs x m
  | 0 => rfl
  | d + 1 => by rw [← wds_out h d]; exact wds_skip (h (m + d) (by omega))
theorem wds_plain (xs : List Int) (x : List (List Int)) : wds xs x (plainU x).length = wds xs x x.length := by
  have h := wds_out (xs := xs) (x := x) (m := (plainU x).length) (fun i hi => by
    rw [← plainU_get]
    exact hasV_none hi) (x.length - (plainU x).length)
  have := plainU_len x
  rw [show (plainU x).length + (x.length - (plainU x).length) = x.length by omega] at h
  exact h.symm
theorem wds_bd {xs : List Int} {x : List (List Int)} (hok : substOk xs x = true) : ∀ k, k ≤ 24 → ∀ a ∈ wds xs x k, a.length ≤ 303
  | 0, _ => fun a ha => by cases ha
  | k + 1, hk => fun a ha => by
    have ih := wds_bd hok k (by omega)
    by_cases h : cl1 k (hasV x k) = []
    · rw [wds_skip h] at ha
      exact ih a ha
    · rw [wds_word rfl h] at ha
      rcases List.mem_append.1 ha with ha | ha
      · exact ih a ha
      · obtain rfl := List.mem_singleton.1 ha
        have hd := dec_two (u := k) (by omega)
        have ht : Pl.termOk xs (cl1 k (hasV x k)) = true := by
          by_cases hv : hasV x k = [-1 - (k : Int)]
          · exact absurd (by rw [hv, cl1_self]) h
          · rw [cl1_other hv] at h ⊢
            by_cases hl : k < x.length
            · rcases (substOk_iff.1 hok).2.2 k hl with h0 | hT
              · exact absurd (List.eq_nil_of_length_eq_zero h0) h
              · exact hT
            · exact absurd (hasV_none (by omega)) h
        have := (Pl.txt_tk ht).2
        unfold wdOf
        simp only [List.length_append, List.length_cons, List.length_nil]
        omega
theorem row_ok {xs : List Int} {x : List (List Int)} (hok : substOk xs x = true) {k : Nat} (hk : k < x.length) {t : List Int} (ht : hasV x k = t) (h : t ≠ []) : Pl.termOk xs t = true := by
  subst ht
  rcases (substOk_iff.1 hok).2.2 k hk with h0 | hT
  · exact absurd (List.eq_nil_of_length_eq_zero h0) h
  · exact hT
def V_SubstText (xs : List Int) (x : List (List Int)) : List UInt8 := if substOk xs x = true then if wds xs x x.length = [] then [45] else Go.Lib.join (wds xs x x.length) [32] else []
theorem V_SubstText_no {xs : List Int} {x : List (List Int)} (h : substOk xs x = false) : V_SubstText xs x = [] := by unfold V_SubstText; rw [h]; rfl
theorem V_SubstText_none {xs : List Int} {x : List (List Int)} (h : substOk xs x = true) (h2 : wds xs x x.length = []) : V_SubstText xs x = [45] := by unfold V_SubstText; rw [if_pos h, if_pos h2]
theorem V_SubstText_some {xs : List Int} {x : List (List Int)} {W : List (List UInt8)} (h : substOk xs x = true) (hW : W = wds xs x x.length) (h2 : W ≠ []) : V_SubstText xs x = Go.Lib.join W [32] := by subst hW; unfold V_SubstText; rw [if_pos h, if_neg h2]
theorem wds_join {xs : List Int} {x : List (List Int)} (h : substOk xs x = true) : (Go.Lib.join (wds xs x x.length) [32]).length ≤ 8000 := by
  have h24 := (substOk_iff.1 h).2.1
  have h1 := join_bd (b := [32]) (W := wds xs x x.length) (m := 303) (wds_bd h _ h24)
  have h2 := wds_len xs x x.length
  have h3 : (wds xs x x.length).length * (303 + [32].length) ≤ 24 * 304 := Nat.mul_le_mul (by omega) (by simp)
  omega
theorem V_SubstText_len (xs : List Int) (x : List (List Int)) : (V_SubstText xs x).length ≤ 8000 := by
  unfold V_SubstText
  split
  · rename_i h
    split
    · simp
    · exact wds_join h
  · simp
theorem keepB3 {W w1 w2 : World} {B : Nat} {p q r : Addr} {u v z : Value} (hb : Below w1.heap.size w1 w2) (hB : B ≤ w1.heap.size) (h : Below B W w1 ∧ w1.cell? p = some u ∧ w1.cell? q = some v ∧ w1.cell? r = some z) : Below B W w2 ∧ w2.cell? p = some u ∧ w2.cell? q = some v ∧ w2.cell? r = some z :=
  ⟨h.1.trans (hb.mono hB), keepC hb h.2.1, keepC hb h.2.2.1, keepC hb h.2.2.2⟩
theorem keepG3 {W w1 w2 : World} {B : Nat} {p q r : Addr} {u v z : Value} (hb : Below B w1 w2) (hp : p.block < B) (hq : q.block < B) (hr : r.block < B) (h : Below B W w1 ∧ w1.cell? p = some u ∧ w1.cell? q = some v ∧ w1.cell? r = some z) : Below B W w2 ∧ w2.cell? p = some u ∧ w2.cell? q = some v ∧ w2.cell? r = some z :=
  ⟨h.1.trans hb, (hb.cell hp).trans h.2.1, (hb.cell hq).trans h.2.2.1, (hb.cell hr).trans h.2.2.2⟩
theorem mk_add (a b : List UInt8) : (⟨a.toArray⟩ : ByteArray) ++ ⟨b.toArray⟩ = ⟨(a ++ b).toArray⟩ := by rw [ByteArray.mk_append_mk]
theorem riB {w wr w1 : World} {B : Nat} {R : Prop} {A : Option Addr} {n : Nat} {xs : List Int} (h : RI w A n xs) (hb : Below w.heap.size w wr) (hS : Below B wr w1 ∧ R) (hB : w.heap.size ≤ B) : RI w1 A n xs := h.below (hb.trans (hS.1.mono hB))
set_option maxHeartbeats 8000000 in
set_option maxRecDepth 20000 in
theorem S_SubstText (A : Option Addr) (n c : Nat) (xs : List Int) (B : Option Addr) (m d : Nat) (x : List (List Int)) (w : World) (h : RI w A n xs) (h' : RR w B m x) (hn : n ≤ 1048576) (hw : wtR x ≤ 1048576) :
    Calls Tryz.prog 15 #[.agg #[.slice A n c], .agg #[.slice B m d]] w fun e w' => e = .returned (.string ⟨(V_SubstText xs x).toArray⟩) ∧ Below w.heap.size w w' := by
  obtain ⟨i0, hi, hz0, hz1, hz2⟩ := info_parts infoString
  have hl := h'.1
  have hB0 : Below w.heap.size w ((w.alloc (.cells #[.slice A n c] 26)).alloc (.cells #[.slice B m d] 39)) := ((Below.refl _ _).alloc (Nat.le_refl _) _).alloc (by simp) _
  have bx0 := (Blk.new w 26 #[.slice A n c]).alloc (.cells #[.slice B m d] 39)
  have by0 : Blk ((w.alloc (.cells #[.slice A n c] 26)).alloc (.cells #[.slice B m d] 39)) (w.heap.size + 1) 39 #[.slice B m d] := by
    have := Blk.new (w.alloc (.cells #[.slice A n c] 26)) 39 #[.slice B m d]
    simpa only [World.size_alloc] using this
  have hsz : ((w.alloc (.cells #[.slice A n c] 26)).alloc (.cells #[.slice B m d] 39)).heap.size = w.heap.size + 1 + 1 := by simp
  cases hok : substOk xs x
  · have HE := Lib.hid (V_SubstText_no hok)
    have HK := Lib.hid hok
    clear hok
    go_enter Tryz.func15, Tryz.ntmps15
    go_wp2_with fail
    generalize (w.alloc (.cells #[.slice A n c] 26)).alloc (.cells #[.slice B m d] 39) = W0 at *
    refine (specSubstOk_any A n c xs B m d x W0 (h.below hB0) (h'.below hB0) hn hw).mono ?_
    rintro e w1 ⟨rfl, hb1⟩
    rw [HK.out]
    have hB1 := hB0.trans (hb1.mono (by omega))
    go_wp2_with fail
    go_ret
    rw [HE.out]
    exact ⟨rfl, hB1⟩
  have hm24 : m ≤ 24 := by have := (substOk_iff.1 hok).2.1; omega
  have HJ := Lib.hid (wds_join hok)
  have HNO := Lib.hid (fun h2 => V_SubstText_none hok h2)
  have HYE := Lib.hid (fun W hW h2 => V_SubstText_some (W := W) hok hW h2)
  have HROW := Lib.hid (fun k hk t ht h => row_ok hok (k := k) hk (t := t) ht h)
  have HK := Lib.hid hok
  clear hok
  go_enter Tryz.func15, Tryz.ntmps15
  go_wp2_with fail
  generalize (w.alloc (.cells #[.slice A n c] 26)).alloc (.cells #[.slice B m d] 39) = W0 at *
  refine (specSubstOk_any A n c xs B m d x W0 (h.below hB0) (h'.below hB0) hn hw).mono ?_
  rintro e w1 ⟨rfl, hb1⟩
  rw [HK.out]
  have hB1 := hB0.trans (hb1.mono (by omega))
  have hs1 : w.heap.size + 1 + 1 ≤ w1.heap.size := by have := hb1.size; omega
  have bx1 := bx0.below hb1
  have by1 := by0.below hb1
  have KY1 : ∀ i, w1.cell? ⟨w.heap.size + 1, i, none⟩ = #[Value.slice B m d][i]? := fun i => by1.cell i
  clear hsz hb1 bx0 by0 HK
  go_wp2_with fail
  refine (l2Plain_any B m d x w1 ((h'.below hB1)) hw hm24).mono ?_
  rintro e w2 ⟨P, pc, rfl, hQ, hb2⟩
  have hP := hQ.rd
  have hB2 := hB1.trans (hb2.mono (by omega))
  have hs2 := hb2.size
  have bx2 := bx1.below hb2
  have hpl := plainU_len x
  have hget := fun i => plainU_get x i
  have hend := wds_plain xs x
  generalize plainU x = pl at *
  have HGET := Lib.hid hget
  have HEND := Lib.hid hend
  clear hQ hb2 bx1 by1 KY1 hget hend
  have hB3 : Below w2.heap.size w2 ((w2.alloc (.cells #[.slice P pl.length pc] 39)).alloc (.cells #[] 9)) := ((Below.refl _ _).alloc (Nat.le_refl _) _).alloc (by simp) _
  have bp : Blk ((w2.alloc (.cells #[.slice P pl.length pc] 39)).alloc (.cells #[] 9)) w2.heap.size 39 #[.slice P pl.length pc] := (Blk.new w2 39 #[.slice P pl.length pc]).alloc _
  have hO : WO ((w2.alloc (.cells #[.slice P pl.length pc] 39)).alloc (.cells #[] 9)) (w2.heap.size + 1) (some ⟨w2.heap.size + 1, 0, none⟩) 0 0 [] := by
    have := WO.empty (w2.alloc (.cells #[.slice P pl.length pc] 39))
    simpa only [World.size_alloc] using this
  have hs3 : w2.heap.size + 1 ≤ ((w2.alloc (.cells #[.slice P pl.length pc] 39)).alloc (.cells #[] 9)).heap.size := by simp
  have bx3 := bx2.below hB3
  have HO0 := Lib.hid hO
  clear hO
  go_wp2_with fail
  generalize (w2.alloc (.cells #[.slice P pl.length pc] 39)).alloc (.cells #[] 9) = W3 at *
  have KX3 : W3.cell? ⟨w.heap.size, 0, none⟩ = some (.slice A n c) := by simpa using bx3.cell 0
  have KP3 : W3.cell? ⟨w2.heap.size, 0, none⟩ = some (.slice P pl.length pc) := by simpa using bp.cell 0
  have r2 := h.below hB2
  clear bx2 bx3 bp
  go_loopw [6, 7] (fun u i wr => ∃ (k : Nat) (acc : List (List UInt8)) (A' : Option Addr) (c' : Nat), k ≤ pl.length ∧ i = .int .i64 k ∧ u = .slice A' acc.length c' ∧ acc.length ≤ k ∧ Hid (acc = wds xs x k) ∧ Hid (WO wr (w2.heap.size + 1) A' acc.length c' acc) ∧ Below (w2.heap.size + 1) W3 wr) (fun _ i _ => pl.length - (intOf i).toNat)
  case atStart => exact ⟨0, [], _, 0, Nat.zero_le _, rfl, rfl, Nat.zero_le _, Lib.hid rfl, HO0, Below.refl _ _⟩
  case round =>
    obtain ⟨k, acc, A', c', hk, rfl, rfl, ha, HA, HO, hb⟩ := hrel
    have hsr : w2.heap.size + 1 ≤ wr.heap.size := by have := hb.size; omega
    have KX : wr.cell? ⟨w.heap.size, 0, none⟩ = some (.slice A n c) := (hb.cell (by simp; omega)).trans KX3
    have KP : wr.cell? ⟨w2.heap.size, 0, none⟩ = some (.slice P pl.length pc) := (hb.cell (by simp)).trans KP3
    have hbw : Below w2.heap.size w2 wr := hB3.trans (hb.mono (by omega))
    by_cases hlt : k < pl.length
    · obtain ⟨g, off, A1, q, d1, t, rfl, hc2, ht, hq7, htx⟩ := hP.at_ hlt
      have hgl : g < w2.heap.size := World.block_lt_of_cell? w2 _ hc2
      have hc := (hbw.cell (p := ⟨g, off + k, none⟩) hgl).trans hc2
      have hql := ht.1
      have HT := Lib.hid ((HGET.out k).symm.trans htx.out.symm)
      clear htx hc2 hq7
      by_cases hq0 : q = 0
      · subst hq0
        have HA2 := Lib.hid (HA.out.trans (wds_skip (k := k) (by rw [HT.out]; exact List.eq_nil_of_length_eq_zero hql)).symm)
        go_wp2_with fail
        go_roundw
        case rel => exact ⟨k + 1, acc, A', c', by omega, by go_num, rfl, by omega, HA2, HO, hb⟩
        case measure => simp [intOf]; omega
      · have htn : t ≠ [] := fun e => hq0 (by rw [← hql, e]; rfl)
        have hcv : hasV x k = t := by
          have h1 := HT.out
          unfold cl1 at h1
          split at h1
          · exact absurd h1.symm htn
          · exact h1
        have HTK := HROW.out k (by omega) t hcv htn
        have HTX := Lib.hid (V_TermText_yes HTK)
        have hq60 : q ≤ 60 := by have := (Pl.termOk_iff.1 HTK).2.1.2; omega
        have htl := (Pl.txt_tk HTK).2
        obtain ⟨TX, hTX⟩ : ∃ TX, Pl.txt xs t 0 = TX := ⟨_, rfl⟩
        rw [hTX] at HTX htl
        have hdd := dec_two (u := k) (by omega)
        obtain ⟨H1, hH1⟩ : ∃ H1 : List UInt8, [120] ++ decDigits k = H1 := ⟨_, rfl⟩
        obtain ⟨H2, hH2⟩ : ∃ H2 : List UInt8, H1 ++ [61] = H2 := ⟨_, rfl⟩
        obtain ⟨H3, hH3⟩ : ∃ H3 : List UInt8, H2 ++ TX = H3 := ⟨_, rfl⟩
        have hl1 : H1.length ≤ 3 := by rw [← hH1]; simp; omega
        have hl2 : H2.length ≤ 4 := by rw [← hH2]; simp; omega
        have HA2 : Hid (acc ++ [H3] = wds xs x (k + 1)) := Lib.hid (by
          rw [wds_word HT.out htn, ← HA.out, ← hH3, ← hH2, ← hH1, ← hTX]
          simp [wdOf])
        have hadd1 : (⟨#[120]⟩ : ByteArray) ++ ⟨(decDigits k).toArray⟩ = ⟨H1.toArray⟩ := by rw [← hH1]; exact mk_add [120] _
        have hadd2 : (⟨H1.toArray⟩ : ByteArray) ++ ⟨#[61]⟩ = ⟨H2.toArray⟩ := by rw [← hH2]; exact mk_add _ [61]
        have hadd3 : (⟨H2.toArray⟩ : ByteArray) ++ ⟨TX.toArray⟩ = ⟨H3.toArray⟩ := by rw [← hH3]; exact mk_add _ _
        have had1 : ¬ 9223372036854775807 < 1 + (decDigits k).length := by omega
        have had2 : ¬ 9223372036854775807 < H1.length + 1 := by omega
        have had3 : ¬ 9223372036854775807 < H2.length + TX.length := by omega
        have hqi : (0 : Int) < (q : Int) := by omega
        have hk0 : (0 : Int) ≤ k := by omega
        have hk1 : (k : Int) < pl.length := by omega
        clear hH1 hH2 hH3 hTX hcv HTK htn hql HT
        go_wp2_with fail
        go_region_held3 (fun w' => Below (w2.heap.size + 1) wr w' ∧ w'.cell? ⟨w.heap.size, 0, none⟩ = some (.slice A n c) ∧ w'.cell? ⟨w2.heap.size, 0, none⟩ = some (.slice (some ⟨g, off, none⟩) pl.length pc) ∧ w'.cell? ⟨g, off + k, none⟩ = some (.slice A1 q d1))
          (first | exact ⟨(Below.refl _ _).drew, KX, KP, hc⟩ | exact keepB3 ha1 (by first | exact hsr | omega) (by assumption) | exact keepB3 ha2 (by have h1 := ha1.size; have e_ : wr.drew.heap.size = wr.heap.size := rfl; omega) (by assumption) | exact keepB3 ((Below.refl _ _).alloc (Nat.le_refl _) _) (by have h1 := ha1.size; have h2 := ha2.size; have e_ : wr.drew.heap.size = wr.heap.size := rfl; omega) (by assumption) | exact keepG3 hgb (by simp; omega) (by simp) (by simp; omega) (by assumption))
          ((first
            | (go_at_call 42; refine (l1Int_any k (by omega) _).mono ?_; rintro e wa ⟨rfl, ha1⟩)
            | (go_at_call 43; refine (S_TermText A n c xs A1 q d1 t _ ?_ ?_ hn (by omega)).mono ?_; exact riB r2 hbw (by assumption) (by omega); exact riB ht hbw (by assumption) (by omega); rw [HTX.out]; rintro e wb ⟨rfl, ha2⟩)
            | (have howa := (ownsRow_below (ownsRow_below (ownsRow_below (w := wr.drew) HO.out ha1) ha2) ((Below.refl _ _).alloc (Nat.le_refl _) (.cells #[.string ⟨H3.toArray⟩] 9))); refine step_append_any rfl _ _ 50 rfl (w2.heap.size + 1) 9 i0 (.string ⟨#[]⟩) 1 16 Tryz.underlying50 hi hz0 hz1 hz2 rfl (by omega) A' acc.length c' (acc.map sv) rfl howa _ 1 _ [.string ⟨H3.toArray⟩] rfl (Src.new _ [.string ⟨H3.toArray⟩] _ 1 1 rfl (by simp [Value.oneCell'])) (by unfold maxLen; omega) (by omega) (by have h1 := ha1.size; have h2 := ha2.size; have e_ : wr.drew.heap.size = wr.heap.size := rfl; simp; omega) ?_; intro A2 c2 w4 ho2 hg2 hnil2 hwh2; have hgb := grown_below hg2 howa (by have h1 := ha1.size; have h2 := ha2.size; have e_ : wr.drew.heap.size = wr.heap.size := rfl; simp; omega))))
        rename_i hS
        have hb4 := hb.trans hS.1
        have HO4 : Hid (WO w4 (w2.heap.size + 1) A2 (acc.length + 1) c2 (acc ++ [H3])) := Lib.hid (by have e := WO.snoc (x := H3) ho2; rwa [List.length_append] at e)
        clear hS hgb ho2 hg2 hwh2 hnil2 ha1 ha2 howa
        go_wp2_with fail
        go_roundw
        case rel => exact ⟨k + 1, acc ++ [H3], A2, c2, by omega, by go_num, by simp, by simp; omega, HA2, by rw [List.length_append]; exact HO4, hb4⟩
        case measure => simp [intOf]; omega
    · have hke : k = pl.length := by omega
      have HA2 := Lib.hid (HA.out.trans ((congrArg (wds xs x) hke).trans HEND.out))
      clear HA
      have hBr := hB2.trans (hbw.mono (by omega))
      by_cases h0 : acc = []
      · have HE := Lib.hid (HNO.out (by rw [← HA2.out, h0]))
        have hz : acc.length = 0 := by rw [h0]; rfl
        clear h0 HA2 HNO HYE
        go_wp2_with fail
        go_ret
        rw [HE.out]
        exact ⟨rfl, hBr⟩
      · have HE := Lib.hid (HYE.out acc HA2.out h0)
        have hz : 0 < acc.length := List.length_pos_iff.2 h0
        have hj : (Go.Lib.join acc [32]).length ≤ 1048576 := by rw [HA2.out]; have := HJ.out; omega
        clear h0 HA2 HNO HYE
        go_wp2_with fail
        refine (l1Words_any A' acc.length c' acc [32] wr HO.out.wi (by omega) hj (by simp)).mono ?_
        rintro e w5 ⟨rfl, rfl⟩
        go_wp2_with fail
        go_ret
        rw [HE.out]
        exact ⟨rfl, hBr⟩
end Go.Proofs.YtlcchafcgidpeaaGreatDoor
/-! Contracts: SubstText, the program's. -/

namespace Go.Proofs.YtlcchafcgidpeaaGreatDoor
open Go.RowKit
open Go.Lib (decDigits)
set_option linter.unusedVariables false
set_option linter.unusedSimpArgs false

theorem keepB1 {W w1 w2 : World} {B : Nat} {p : Addr} {u : Value} (hb : Below w1.heap.size w1 w2) (hB : B ≤ w1.heap.size) (h : Below B W w1 ∧ w1.cell? p = some u) : Below B W w2 ∧ w2.cell? p = some u := ⟨h.1.trans (hb.mono hB), keepC hb h.2⟩
theorem keepG1 {W w1 w2 : World} {B : Nat} {p : Addr} {u : Value} (hb : Below B w1 w2) (hp : p.block < B) (h : Below B W w1 ∧ w1.cell? p = some u) : Below B W w2 ∧ w2.cell? p = some u := ⟨h.1.trans hb, (hb.cell hp).trans h.2⟩
theorem svs_get {acc : List (List UInt8)} {w : World} {g off c : Nat} (h : WI w (some ⟨g, off, none⟩) acc.length acc) : ∀ (j : Nat) (y : ByteArray), (acc.map fun a => (⟨a.toArray⟩ : ByteArray))[j]? = some y → w.cell? ⟨g, off + j, none⟩ = some (.string y) := by
  intro j y hy
  rw [List.getElem?_map] at hy
  cases hj : acc[j]? with
  | none => rw [hj] at hy; cases hy
  | some a =>
    rw [hj] at hy
    simp only [Option.map_some, Option.some.injEq] at hy
    subst hy
    have hlt := (List.getElem?_eq_some_iff.1 hj).1
    obtain ⟨g2, off2, x, e, hc, hx⟩ := h.at_ hlt
    simp only [Option.some.injEq, Addr.mk.injEq, and_true] at e
    obtain ⟨rfl, rfl⟩ := e
    rw [hc, hx.out, List.getD_eq_getElem?_getD, hj]
    rfl
theorem WO.cap_ {w : World} {B : Nat} {A : Option Addr} {n c : Nat} {W : List (List UInt8)} (h : WO w B A n c W) : n ≤ c := by
  rcases h.2 with ⟨hn, h0⟩ | ⟨g, cap, cur, hv, hg, hh, hc, _⟩
  · omega
  · simp only [Value.slice.injEq] at hv
    omega
theorem svs_data (acc : List (List UInt8)) : (acc.map fun a => (⟨a.toArray⟩ : ByteArray)).map (·.data.toList) = acc := by
  rw [List.map_map]
  conv => rhs; rw [← List.map_id acc]
  exact List.map_congr_left fun a _ => rfl
set_option maxHeartbeats 8000000 in
set_option maxRecDepth 20000 in
theorem I_SubstText (A : Option Addr) (n c : Nat) (xs : List Int) (B : Option Addr) (m d : Nat) (x : List (List Int)) (w : World) (h : RI w A n xs) (h' : RR w B m x) (hn : n ≤ 1048576) (hw : wtR x ≤ 1048576) :
    Calls Tryz.prog 14 #[.agg #[.slice A n c], .agg #[.slice B m d]] w fun e w' => e = .returned (.string ⟨(V_SubstText xs x).toArray⟩) ∧ Below w.heap.size w w' := by
  obtain ⟨i0, hi, hz0, hz1, hz2⟩ := info_parts infoString
  have hl := h'.1
  have hB0 : Below w.heap.size w ((w.alloc (.cells #[.slice A n c] 26)).alloc (.cells #[.slice B m d] 39)) := ((Below.refl _ _).alloc (Nat.le_refl _) _).alloc (by simp) _
  have bx0 := (Blk.new w 26 #[.slice A n c]).alloc (.cells #[.slice B m d] 39)
  have by0 : Blk ((w.alloc (.cells #[.slice A n c] 26)).alloc (.cells #[.slice B m d] 39)) (w.heap.size + 1) 39 #[.slice B m d] := by
    have := Blk.new (w.alloc (.cells #[.slice A n c] 26)) 39 #[.slice B m d]
    simpa only [World.size_alloc] using this
  have hsz : ((w.alloc (.cells #[.slice A n c] 26)).alloc (.cells #[.slice B m d] 39)).heap.size = w.heap.size + 1 + 1 := by simp
  cases hok : substOk xs x
  · have HE := Lib.hid (V_SubstText_no hok)
    have HK := Lib.hid hok
    clear hok
    go_enter Tryz.func14, Tryz.ntmps14
    go_wp2_with fail
    generalize (w.alloc (.cells #[.slice A n c] 26)).alloc (.cells #[.slice B m d] 39) = W0 at *
    refine (implSubstOk_any A n c xs B m d x W0 (h.below hB0) (h'.below hB0) hn hw).mono ?_
    rintro e w1 ⟨rfl, hb1⟩
    rw [HK.out]
    have hB1 := hB0.trans (hb1.mono (by omega))
    go_wp2_with fail
    go_ret
    rw [HE.out]
    exact ⟨rfl, hB1⟩
  have hm24 : m ≤ 24 := by have := (substOk_iff.1 hok).2.1; omega
  have HJ := Lib.hid (wds_join hok)
  have HNO := Lib.hid (fun h2 => V_SubstText_none hok h2)
  have HYE := Lib.hid (fun W hW h2 => V_SubstText_some (W := W) hok hW h2)
  have HROW := Lib.hid (fun k hk t ht h => row_ok hok (k := k) hk (t := t) ht h)
  have HK := Lib.hid hok
  clear hok
  go_enter Tryz.func14, Tryz.ntmps14
  go_wp2_with fail
  generalize (w.alloc (.cells #[.slice A n c] 26)).alloc (.cells #[.slice B m d] 39) = W0 at *
  refine (implSubstOk_any A n c xs B m d x W0 (h.below hB0) (h'.below hB0) hn hw).mono ?_
  rintro e w1 ⟨rfl, hb1⟩
  rw [HK.out]
  have hB1 := hB0.trans (hb1.mono (by omega))
  have hs1 : w.heap.size + 1 + 1 ≤ w1.heap.size := by have := hb1.size; omega
  have bx1 := bx0.below hb1
  have by1 := by0.below hb1
  have KY1 : ∀ i, w1.cell? ⟨w.heap.size + 1, i, none⟩ = #[Value.slice B m d][i]? := fun i => by1.cell i
  have KX1 : ∀ i, w1.cell? ⟨w.heap.size, i, none⟩ = #[Value.slice A n c][i]? := fun i => bx1.cell i
  have hR := h'.below hB1
  have r1 := h.below hB1
  clear hsz hb1 bx0 by0 HK
  go_wp2_with fail
  go_loopw [5, 15] (fun u i wr => ∃ (k : Nat) (acc : List (List UInt8)) (A' : Option Addr) (c' : Nat), k ≤ m ∧ i = .int .i64 k ∧ u = .slice A' acc.length c' ∧ acc.length ≤ k ∧ Hid (acc = wds xs x k) ∧ Hid (WO wr w1.heap.size A' acc.length c' acc) ∧ Below w1.heap.size w1 wr) (fun _ i _ => m - (intOf i).toNat)
  case atStart => exact ⟨0, [], none, 0, Nat.zero_le _, rfl, rfl, Nat.zero_le _, Lib.hid rfl, Lib.hid (WO.nil _ _), Below.refl _ _⟩
  case round =>
    obtain ⟨k, acc, A', c', hk, rfl, rfl, ha, HA, HO, hb⟩ := hrel
    have hsr : w1.heap.size ≤ wr.heap.size := hb.size
    by_cases hlt : k < m
    · obtain ⟨g, off, A1, q, d1, t, rfl, hc2, ht, hq7, htx⟩ := hR.at_ hlt
      have hgl : g < w1.heap.size := World.block_lt_of_cell? w1 _ hc2
      have hc := (hb.cell (p := ⟨g, off + k, none⟩) hgl).trans hc2
      have hql := ht.1
      have HT : Hid (hasV x k = t) := Lib.hid htx.out.symm
      have tr := ht.below hb
      clear htx hc2
      by_cases hq0 : q = 0
      · subst hq0
        have HA2 := Lib.hid (HA.out.trans (wds_skip (k := k) (by rw [HT.out, List.eq_nil_of_length_eq_zero hql, cl1_nil])).symm)
        clear hql
        go_wp2_with fail
        go_roundw
        case rel => exact ⟨k + 1, acc, A', c', by omega, by go_num, rfl, by omega, HA2, HO, hb⟩
        case measure => simp [intOf]; omega
      · have htn : t ≠ [] := fun e => hq0 (by rw [← hql, e]; rfl)
        have HTK := Lib.hid (HROW.out k (by omega) t HT.out htn)
        have hq60 : q ≤ 60 := by have := (Pl.termOk_iff.1 HTK.out).2.1.2; omega
        have hqi : (0 : Int) < (q : Int) := by omega
        have hk0 : (0 : Int) ≤ k := by omega
        have hk1 : (k : Int) < m := by omega
        go_wp2_with fail
        refine (variable_any k wr (by omega)).mono ?_
        rintro e w4 ⟨rfl, hv, hb4⟩
        have hs4 := hb4.size
        go_wp2_with fail
        refine (slicesEqual_any A1 q d1 t (some ⟨wr.heap.size, 0, none⟩) 1 1 [-1 - (k : Int)] w4 (tr.below hb4) hv.ri (by omega)).mono ?_
        rintro e w5 ⟨rfl, hb5⟩
        have hs5 := hb5.size
        have HO5 := Lib.hid ((HO.out.below hb4).below hb5)
        have hbb := (hb.trans (hb4.mono hsr)).trans (hb5.mono (by omega))
        have KX : w5.cell? ⟨w.heap.size, 0, none⟩ = some (.slice A n c) := (hbb.cell (by simp; omega)).trans (by simpa using KX1 0)
        clear hv HO tr hb4 hb5 hb hc
        cases hde : decide (t = [-1 - (k : Int)])
        rotate_left
        · have HA2 := Lib.hid (HA.out.trans (wds_skip (k := k) (by rw [HT.out, of_decide_eq_true hde, cl1_self])).symm)
          clear hde hql htn
          go_wp2_with fail
          go_roundw
          case rel => exact ⟨k + 1, acc, A', c', by omega, by go_num, rfl, by omega, HA2, HO5, hbb⟩
          case measure => simp [intOf]; omega
        have hcl : cl1 k (hasV x k) = t := by rw [HT.out]; exact cl1_other (of_decide_eq_false hde)
        have htl := (Pl.txt_tk HTK.out).2
        obtain ⟨TX, hTX⟩ : ∃ TX, Pl.txt xs t 0 = TX := ⟨_, rfl⟩
        rw [hTX] at htl
        have HTX := Lib.hid hTX
        have hdd := dec_two (u := k) (by omega)
        obtain ⟨H1, hH1⟩ : ∃ H1 : List UInt8, [120] ++ decDigits k = H1 := ⟨_, rfl⟩
        obtain ⟨H2, hH2⟩ : ∃ H2 : List UInt8, H1 ++ [61] = H2 := ⟨_, rfl⟩
        obtain ⟨H3, hH3⟩ : ∃ H3 : List UInt8, H2 ++ TX = H3 := ⟨_, rfl⟩
        have hl1 : H1.length ≤ 3 := by rw [← hH1]; simp; omega
        have hl2 : H2.length ≤ 4 := by rw [← hH2]; simp; omega
        have HA2 : Hid (acc ++ [H3] = wds xs x (k + 1)) := Lib.hid (by
          rw [wds_word hcl htn, ← HA.out, ← hH3, ← hH2, ← hH1, ← hTX]
          simp [wdOf])
        have hadd1 : (⟨#[120]⟩ : ByteArray) ++ ⟨(decDigits k).toArray⟩ = ⟨H1.toArray⟩ := by rw [← hH1]; exact mk_add [120] _
        have hadd2 : (⟨H1.toArray⟩ : ByteArray) ++ ⟨#[61]⟩ = ⟨H2.toArray⟩ := by rw [← hH2]; exact mk_add _ [61]
        have hadd3 : (⟨H2.toArray⟩ : ByteArray) ++ ⟨TX.toArray⟩ = ⟨H3.toArray⟩ := by rw [← hH3]; exact mk_add _ _
        have had1 : ¬ 9223372036854775807 < 1 + (decDigits k).length := by omega
        have had2 : ¬ 9223372036854775807 < H1.length + 1 := by omega
        have had3 : ¬ 9223372036854775807 < H2.length + TX.length := by omega
        clear hH1 hH2 hH3 hTX hcl htn hql HT hde
        go_wp2_with fail
        go_region_held3 (fun w' => Below w1.heap.size w5 w' ∧ w'.cell? ⟨w.heap.size, 0, none⟩ = some (.slice A n c))
          (first | exact ⟨(Below.refl _ _).drew, KX⟩ | exact keepB1 ha2 (by have e_ : w5.drew.heap.size = w5.heap.size := rfl; omega) (by assumption) | exact keepB1 ((Below.refl _ _).alloc (Nat.le_refl _) _) (by have h2 := ha2.size; have e_ : w5.drew.heap.size = w5.heap.size := rfl; omega) (by assumption) | exact keepG1 hgb (by simp; omega) (by assumption) | assumption)
          ((first
            | (go_at_call 38; refine (Tryz.strconv_Itoa_small k (by omega) _).mono ?_; rintro e wa ⟨rfl, rfl⟩)
            | (go_at_call 26; refine (text_any A n c xs A1 q d1 t _ ?_ ?_ HTK.out hn (by omega)).mono ?_; exact riB r1 hbb (by assumption) (by omega); exact riB ht hbb (by assumption) (by omega); rw [HTX.out]; rintro e wb ⟨rfl, ha2⟩)
            | (have howa := ownsRow_below (ownsRow_below (w := w5.drew) HO5.out ha2) ((Below.refl _ _).alloc (Nat.le_refl _) (.cells #[.string ⟨H3.toArray⟩] 9)); refine step_append_any rfl _ _ 50 rfl w1.heap.size 9 i0 (.string ⟨#[]⟩) 1 16 Tryz.underlying50 hi hz0 hz1 hz2 rfl (by omega) A' acc.length c' (acc.map sv) rfl howa _ 1 _ [.string ⟨H3.toArray⟩] rfl (Src.new _ [.string ⟨H3.toArray⟩] _ 1 1 rfl (by simp [Value.oneCell'])) (by unfold maxLen; omega) (by omega) (by have h2 := ha2.size; have e_ : w5.drew.heap.size = w5.heap.size := rfl; simp; omega) ?_; intro A2 c2 w6 ho2 hg2 hnil2 hwh2; have hgb := grown_below hg2 howa (by have h2 := ha2.size; have e_ : w5.drew.heap.size = w5.heap.size := rfl; simp; omega))))
        rename_i hS
        have hb6 := hbb.trans hS.1
        have HO4 : Hid (WO w6 w1.heap.size A2 (acc.length + 1) c2 (acc ++ [H3])) := Lib.hid (by have e := WO.snoc (x := H3) ho2; rwa [List.length_append] at e)
        clear hS hgb ho2 hg2 hwh2 hnil2 ha2 howa
        go_wp2_with fail
        go_roundw
        case rel => exact ⟨k + 1, acc ++ [H3], A2, c2, by omega, by go_num, by simp, by simp; omega, HA2, by rw [List.length_append]; exact HO4, hb6⟩
        case measure => simp [intOf]; omega
    · have hke : k = x.length := by omega
      have HA2 := Lib.hid (HA.out.trans (congrArg (wds xs x) hke))
      clear HA hke
      have hBr := hB1.trans (hb.mono (by omega))
      by_cases h0 : acc = []
      · have HE := Lib.hid (HNO.out (by rw [← HA2.out, h0]))
        have hz : acc.length = 0 := by rw [h0]; rfl
        clear h0 HA2 HNO HYE
        go_wp2_with fail
        go_ret
        rw [HE.out]
        exact ⟨rfl, hBr⟩
      · have HE := Lib.hid (HYE.out acc HA2.out h0)
        have hz : 0 < acc.length := List.length_pos_iff.2 h0
        have hj : (Go.Lib.join acc [32]).length ≤ 1048576 := by rw [HA2.out]; have := HJ.out; omega
        have hwi := HO.out.wi
        have hcap := WO.cap_ HO.out
        obtain ⟨g, off, xx, rfl, hcc, _⟩ := hwi.at_ hz
        have hgl := World.block_lt_of_cell? wr _ hcc
        have hcont := Tryz.strings_Join g off c' (acc.map fun a => (⟨a.toArray⟩ : ByteArray)) ⟨#[32]⟩ wr (svs_get (c := c') hwi) hgl (by simp; omega) (by simp; exact hcap) (by rw [svs_data]; show (Go.Lib.join acc [32]).length ≤ _; omega)
        rw [svs_data, List.length_map] at hcont
        clear h0 HA2 HNO HYE
        go_wp2_with fail
        refine hcont.mono ?_
        rintro e w5 ⟨rfl, hb5⟩
        go_wp2_with fail
        go_ret
        rw [HE.out]
        exact ⟨rfl, hBr.trans (hb5.mono hBr.size)⟩
end Go.Proofs.YtlcchafcgidpeaaGreatDoor
