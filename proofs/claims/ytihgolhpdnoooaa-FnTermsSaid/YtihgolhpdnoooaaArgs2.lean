/- Contracts: ArgsAt; depth. -/
import Derived.Test.YtihgolhpdnoooaaArgs
namespace Go.Proofs.Ytihgolhpdnoooaa
open Go.RowKit
set_option linter.unusedVariables false

def V_ArgsAt (xs t : List Int) (p : Int) : List Int := if Pl.posOk xs t p then nats (Pl.args (Pl.ari xs) t p.toNat) else []
theorem argsAt_no {xs t : List Int} {p : Int} (h : Pl.posOk xs t p = false) : V_ArgsAt xs t p = [] := by unfold V_ArgsAt; rw [h]; rfl
theorem argsAt_yes {xs t : List Int} {k : Nat} (h : Pl.posOk xs t k = true) : V_ArgsAt xs t k = nats (Pl.args (Pl.ari xs) t k) := by unfold V_ArgsAt; rw [h]; rfl
theorem bd_ArgsAt (xs t : List Int) (p : Int) : (V_ArgsAt xs t p).length ≤ 60 := by
  unfold V_ArgsAt
  split
  · rename_i h
    have := args_len (Pl.posOk_iff.1 h).1 p.toNat
    rw [nats_length]; omega
  · simp
set_option maxHeartbeats 1000000 in
set_option maxRecDepth 20000 in
theorem I_ArgsAt (A : Option Addr) (n c : Nat) (xs : List Int) (B : Option Addr) (m d : Nat) (t : List Int) (p : Int) (w : World) (h : RI w A n xs) (h' : RI w B m t) (hn : n ≤ 1048576) (hm : m ≤ 1048576) :
    Calls Try.prog 20 #[.agg #[.slice A n c], .slice B m d, .int .i64 p] w fun e w' => ∃ A' c', e = .returned (.slice A' (V_ArgsAt xs t p).length c') ∧ OI w' w.heap.size A' (V_ArgsAt xs t p).length c' (V_ArgsAt xs t p) ∧ Below w.heap.size w w' := by
  have hl := h'.1
  cases hs : Pl.posOk xs t p
  · have HE := argsAt_no hs
    rw [HE]
    clear hl HE
    go_enter Try.func20, Try.ntmps20
    go_wp2_with fail
    refine (posOk_ok A n c xs B m d t p _ (h.alloc _) (h'.alloc _) hn hm).mono ?_
    rintro e w1 ⟨rfl, hb1⟩
    have hB : Below w.heap.size w w1 := below_then ((Below.refl _ _).alloc (Nat.le_refl _) _) hb1 (by simp)
    have bx : w1.cell? ⟨w.heap.size, 0, none⟩ = some (.slice A n c) := (hb1.cell (by simp)).trans (by simp)
    replace h := (h.alloc _).below hb1
    replace h' := (h'.alloc _).below hb1
    clear hb1
    go_wp2_with fail
    go_ret
    exact ⟨none, 0, rfl, World.ownsRow_nil _ _ _ _, hB⟩
  · obtain ⟨i0, hi, hz0, hz1, hz2⟩ := info_parts infoInt64
    obtain ⟨k, rfl, hk, hT⟩ := Pl.posOk_nat hs
    rw [hl] at hk
    have HE := argsAt_yes hs
    rw [HE, nats_length]
    have hal := args_len hT k
    have HT := Lib.hid hT
    clear hl hT HE
    generalize hL : Pl.args (Pl.ari xs) t k = L at *
    have HL := Lib.hid hL
    clear hL
    go_enter Try.func20, Try.ntmps20
    go_wp2_with fail
    refine (posOk_ok A n c xs B m d t k _ (h.alloc _) (h'.alloc _) hn hm).mono ?_
    rintro e w1 ⟨rfl, hb1⟩
    have hB : Below w.heap.size w w1 := below_then ((Below.refl _ _).alloc (Nat.le_refl _) _) hb1 (by simp)
    have bx : w1.cell? ⟨w.heap.size, 0, none⟩ = some (.slice A n c) := (hb1.cell (by simp)).trans (by simp)
    replace h := (h.alloc _).below hb1
    replace h' := (h'.alloc _).below hb1
    clear hb1
    go_wp2_with fail
    refine (argsAt_any A n c xs B m d t k _ h h' HT.out hk hm hn).mono ?_
    rintro e w2 ⟨A', c', rfl, ho, hb2⟩
    have hR := ho.ri
    have hB2 := below_then hB hb2 hB.size
    clear ho hb2 hB bx h h'
    rw [HL.out] at hR ⊢
    go_wp2_with fail
    go_loopw [7, 20, 9] (fun u i _ wr => ∃ (j : Nat) (A2 : Option Addr) (c2 : Nat), j ≤ L.length ∧ i = .int .i64 j ∧ u = .slice A2 (L.take j).length c2 ∧ Hid (OI wr w2.heap.size A2 (L.take j).length c2 (nats (L.take j))) ∧ Below w2.heap.size w2 wr) (fun _ i _ _ => L.length - (intOf i).toNat)
    case atStart => exact ⟨0, none, 0, by omega, rfl, rfl, World.ownsRow_nil _ _ _ _, Below.refl _ _⟩
    case round =>
      obtain ⟨j, A2, c2, hj, rfl, rfl, ho, hb⟩ := hrel
      by_cases hlt : j < L.length
      · obtain ⟨g, off, x, rfl, hc, hx⟩ := (hR.below hb).at_ (k := j) hlt
        have hxn : x = (L.getD j 0 : Nat) := by rw [hx.out, nats_getD _ _ hlt]
        obtain ⟨q, hq⟩ : ∃ q : Nat, q = L.getD j 0 := ⟨_, rfl⟩
        rw [← hq] at hxn
        have hts : L.take (j + 1) = L.take j ++ [q] := by
          rw [List.take_succ_eq_append_getElem hlt, hq]; simp [List.getD_eq_getElem?_getD, hlt]
        have HTS := Lib.hid hts
        subst hxn
        have htl : (L.take j).length ≤ 3 := by rw [List.length_take]; omega
        clear hx hts hq
        generalize L.take j = l at *
        have howa := Lib.hid (ownsRow_below ho.out ((Below.refl _ wr).alloc (Nat.le_refl _) (.cells #[.int .i64 q] 2)))
        have hsz := hb.size
        go_wp2_with (at_builtin; refine wpList_append_any rfl _ _ 24 rfl w2.heap.size 2 i0 (.int .i64 0) 1 8 Try.underlying24 hi hz0 hz1 hz2 rfl (by omega) A2 l.length c2 ((nats l).map (Value.int .i64)) rfl howa.out _ 1 _ [.int .i64 q] rfl (Src.new _ [.int .i64 q] _ 1 1 rfl (by simp [Value.oneCell'])) (by unfold maxLen; omega) (by omega) (by simp; omega) ?_; intro A3 c3 w3 ho3 hg hnil; have hgb := app_below hg howa.out hsz)
        go_roundw
        case rel => exact ⟨j + 1, A3, c3, by omega, by go_num, by rw [HTS.out, List.length_append]; rfl, by rw [HTS.out]; exact oi_nats ho3, hb.trans hgb⟩
        case measure => simp [intOf]; omega
      · have hjn : j = L.length := by omega
        have HTS : Hid (L.take j = L) := Lib.hid (by rw [hjn, List.take_length])
        go_wp2
        go_ret
        have := ho.out
        rw [HTS.out] at this ⊢
        exact ⟨A2, c2, rfl, this.base hB2.size, below_then hB2 hb hB2.size⟩
end Go.Proofs.Ytihgolhpdnoooaa
