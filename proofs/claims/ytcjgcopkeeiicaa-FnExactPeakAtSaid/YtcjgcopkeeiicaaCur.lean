/- Contracts: the program's cursor over a term, and its right terms. -/
import Derived.Test.YtcjgcopkeeiicaaTerm
namespace Go.Proofs.Ytcjgcopkeeiicaa
open Go.RowKit
set_option linter.unusedVariables false

/-- What the cursor's next step gives. -/
def nextV (ar t : List Int) (k : Nat) : Int := if k < t.length then Pl.nxt ar (t.getD k 0) else -1
theorem nextV_out {ar t : List Int} {k : Nat} (h : ¬ k < t.length) : nextV ar t k = -1 := if_neg h
theorem nextV_in {ar t : List Int} {k : Nat} (h : k < t.length) : nextV ar t k = Pl.nxt ar (t.getD k 0) := if_pos h
theorem nxt_big {ar : List Int} {x : Int} (h : (ar.length : Int) ≤ x) : Pl.nxt ar x = -1 := by
  unfold Pl.nxt
  rw [if_neg (by omega), if_neg (by omega)]
theorem nxt_small {ar : List Int} {x : Int} (hs : Pl.sigOk ar = true) (h : x < ar.length) : 0 ≤ Pl.nxt ar x := by
  have h3 := (Pl.sigOk_iff.1 hs).2
  unfold Pl.nxt
  rw [if_pos h]
  split
  · omega
  · exact (h3 _ (Pl.getD_mem (by omega))).1

/-- Where the cursor stands behind that step. -/
def stepTo (v : Int) (k : Nat) : Nat := if 0 ≤ v then k + 1 else k
theorem stepTo_neg {v : Int} {k : Nat} (h : v < 0) : stepTo v k = k := if_neg (by omega)
theorem stepTo_pos {v : Int} {k : Nat} (h : 0 ≤ v) : stepTo v k = k + 1 := if_pos h

/-- The cursor's block. -/
def Cur (w : World) (b : Nat) (A : Option Addr) (n c : Nat) (B : Option Addr) (m d k : Nat) : Prop := Blk w b 108 #[.slice A n c, .slice B m d, .int .i64 k]

set_option maxHeartbeats 1000000 in
theorem next_any (w0 : World) (b : Nat) (A : Option Addr) (n c : Nat) (xs : List Int) (B : Option Addr) (m d : Nat) (t : List Int) (k : Nat) (w : World)
    (h : RI w0 A n xs) (h' : RI w0 B m t) (hn : n ≤ 9223372036854775806) (hm : m ≤ 1048576) (hs : Pl.sigOk xs = true) (hk : k ≤ m)
    (hw : Below w0.heap.size w0 w) (hB : w0.heap.size ≤ b) (hcur : Cur w b A n c B m d k) :
    Calls Try.prog 82 #[.pointer (some ⟨b, 0, none⟩)] w fun e w' => e = .returned (.int .i64 (nextV xs t k)) ∧ Below w0.heap.size w0 w' ∧ Cur w' b A n c B m d (stepTo (nextV xs t k) k) := by
  have c0 : w.cell? ⟨b, 0, none⟩ = some (.slice A n c) := by have := hcur.cell 0; simpa using this
  have c1 : w.cell? ⟨b, 1, none⟩ = some (.slice B m d) := by have := hcur.cell 1; simpa using this
  have c2 : w.cell? ⟨b, 2, none⟩ = some (.int .i64 k) := by have := hcur.cell 2; simpa using this
  have f2 : w.frozen? ⟨b, 2, none⟩ = false := hcur.frozen 2
  have HC := Lib.hid hcur
  have HS := Lib.hid hs
  clear hcur hs
  by_cases hlt : k < m
  · have hw' := Lib.hid hw
    obtain ⟨g, off, x, rfl, hc, hx⟩ := (h'.below hw).at_ hlt
    have hgb : g < w0.heap.size := by
      obtain ⟨g', off', he, hc'⟩ := h'.2 (by omega)
      simp only [Option.some.injEq, Addr.mk.injEq, and_true] at he
      obtain ⟨rfl, rfl⟩ := he
      exact World.block_lt_of_cell? _ _ (hc' k hlt)
    have hkm : (k : Int) < m := by omega
    have hk0 : (0 : Int) ≤ k := by omega
    have dg : decide (m ≤ k) = false := by simp; omega
    have HV : Hid (nextV xs t k = Pl.nxt xs x) := Lib.hid (by rw [nextV_in (by rw [h'.1]; exact hlt), hx.out])
    clear hlt
    by_cases hbig : (n : Int) ≤ x
    · have HN := Lib.hid (nxt_big (ar := xs) (x := x) (by rw [h.1]; exact hbig))
      have db : decide ((n : Int) ≤ x) = true := by simpa using hbig
      go_enter Try.func82, Try.ntmps82
      go_wp2
      go_quiet (fail)
      go_wp2
      go_ret
      refine ⟨ret_int (by rw [HV.out, HN.out]), below_drewN hw _, ?_⟩
      rw [HV.out, HN.out, stepTo_neg (by omega)]
      exact HC.out.drewN _
    · have HN := Lib.hid (nxt_small (x := x) HS.out (by rw [h.1]; omega))
      have db : decide ((n : Int) ≤ x) = false := by simpa using hbig
      have hgne : g ≠ b := by omega
      go_enter Try.func82, Try.ntmps82
      go_wp2
      go_quiet (fail)
      go_wp2
      have hcur2 : Cur ((w.drewN nq).setCell ⟨b, 2, none⟩ (.int .i64 ((k : Int) + 1))) b A n c (some ⟨g, off, none⟩) m d (k + 1) := (HC.out.drewN nq).set_ 2 (.int .i64 ((k : Int) + 1))
      have hw2 : Below w0.heap.size w0 ((w.drewN nq).setCell ⟨b, 2, none⟩ (.int .i64 ((k : Int) + 1))) := (below_drewN hw nq).setCell hB _
      have hc2 : ((w.drewN nq).setCell ⟨b, 2, none⟩ (.int .i64 ((k : Int) + 1))).cell? ⟨g, off + k, none⟩ = some (.int .i64 x) := (World.cell?_setCell_other _ _ _ _ (by simp <;> omega)).trans hc
      generalize (w.drewN nq).setCell ⟨b, 2, none⟩ (.int .i64 ((k : Int) + 1)) = w2 at *
      clear hw hw' hc c0 c1 c2 f2 HC
      have d0 : w2.cell? ⟨b, 0, none⟩ = some (.slice A n c) := by have := hcur2.cell 0; simpa using this
      have d1 : w2.cell? ⟨b, 1, none⟩ = some (.slice (some ⟨g, off, none⟩) m d) := by have := hcur2.cell 1; simpa using this
      have d2 : w2.cell? ⟨b, 2, none⟩ = some (.int .i64 ((k : Int) + 1)) := by have := hcur2.cell 2; simpa using this
      have HC2 := Lib.hid hcur2
      clear hcur2
      have e1 : IntKind.i64.wrap ((k : Int) + 1 - 1) = k := (IntWalk.i64_in _ (by omega)).trans (by omega)
      have e2 : IntKind.i64.wrap (k : Int) = k := IntWalk.i64_in _ (by omega)
      go_region_held3 (fun w' => Hid (Cur w' b A n c (some ⟨g, off, none⟩) m d (k + 1)) ∧ Below w0.heap.size w0 w' ∧ w'.cell? ⟨b, 0, none⟩ = some (.slice A n c) ∧ w'.cell? ⟨b, 1, none⟩ = some (.slice (some ⟨g, off, none⟩) m d) ∧ w'.cell? ⟨b, 2, none⟩ = some (.int .i64 ((k : Int) + 1)) ∧ w'.cell? ⟨g, off + k, none⟩ = some (.int .i64 x))
        (first | exact ⟨HC2.out, hw2.drew, d0, d1, d2, hc2⟩ | exact keepA hb1 (keepS4 hb1) (by assumption))
        ((go_at_call 83; refine (arityAt_any A n c xs x _ ?_ hbig).mono ?_; exact riS h (And.right (by assumption)); rintro e w1 ⟨rfl, hb1⟩))
      rename_i hS
      obtain ⟨hc3, hw3, _⟩ := hS
      have HE : Hid (nextV xs t k = Pl.nxt xs x ∧ stepTo (nextV xs t k) k = k + 1) := Lib.hid ⟨HV.out, by rw [HV.out, stepTo_pos HN.out]⟩
      clear HV HN
      go_wp2
      go_ret
      exact ⟨ret_int HE.out.1.symm, hw3, by rw [HE.out.2]; exact hc3.out⟩
  · have HV := Lib.hid (nextV_out (ar := xs) (t := t) (k := k) (by rw [h'.1]; exact hlt))
    have hkm : k = m := by omega
    subst hkm
    have dg : decide (k ≤ k) = true := by simp
    clear hlt
    go_enter Try.func82, Try.ntmps82
    go_wp2
    go_quiet (fail)
    go_wp2
    go_ret
    refine ⟨ret_int HV.out.symm, below_drewN hw _, ?_⟩
    rw [HV.out, stepTo_neg (by omega)]
    exact HC.out.drewN _
def curAt (b : Nat) (w : World) : Nat := match w.cell? ⟨b, 2, none⟩ with | some (.int _ k) => k.toNat | _ => 0
theorem curAt_of {w : World} {b : Nat} {A : Option Addr} {n c : Nat} {B : Option Addr} {m d k : Nat} (h : Cur w b A n c B m d k) : curAt b w = k := by
  have := h.cell 2
  simp at this
  unfold curAt
  rw [this]
  simp

set_option maxHeartbeats 1000000 in
theorem skip_any (w0 : World) (b : Nat) (A : Option Addr) (n c : Nat) (xs : List Int) (B : Option Addr) (m d : Nat) (t : List Int) (p : Nat) (w : World)
    (h : RI w0 A n xs) (h' : RI w0 B m t) (hn : n ≤ 9223372036854775806) (hm : m ≤ 1048576) (hs : Pl.sigOk xs = true) (hp : p ≤ m)
    (hw : Below w0.heap.size w0 w) (hB : w0.heap.size ≤ b) (hcur : Cur w b A n c B m d p) :
    Calls Try.prog 77 #[.pointer (some ⟨b, 0, none⟩)] w fun e w' => ∃ (r : Bool) (k : Nat), e = .returned (.bool r) ∧ Below w0.heap.size w0 w' ∧ Cur w' b A n c B m d k ∧ (r = true → Pl.endOf (Pl.nxt xs) t p = k) ∧ (r = false → Pl.endOf (Pl.nxt xs) t p = -1) := by
  have HC := Lib.hid hcur
  have HS := Lib.hid hs
  clear hcur hs
  go_enter Try.func77, Try.ntmps77
  go_wp2
  go_loopw [3, 4] (fun u v wr => ∃ k q : Nat, p ≤ k ∧ k ≤ m ∧ q ≤ 3 * k + 1 ∧ u = .int .i64 q ∧ Hid (Cur wr b A n c B m d k) ∧ Hid (Mid (Pl.nxt xs) t p k q) ∧ Below w0.heap.size w0 wr) (fun _ _ wr => m - curAt b wr)
  case atStart => exact ⟨p, 1, Nat.le_refl _, hp, by omega, rfl, HC, Mid.start _ _ _, hw⟩
  case round =>
    obtain ⟨k, q, hpk, hk, hq, rfl, hcr, hmid, hb⟩ := hrel
    have hat := Lib.hid (curAt_of hcr.out)
    cases q with
    | zero =>
      have HE := Lib.hid (Mid.done hmid.out hpk)
      go_wp2
      go_ret
      exact ⟨true, k, rfl, hb, hcr.out, fun _ => HE.out, by simp⟩
    | succ q =>
      go_wp2_with fail
      refine (next_any w0 b A n c xs B m d t k _ h h' hn hm HS.out hk hb hB hcr.out).mono ?_
      rintro e w1 ⟨rfl, hb1, hc1⟩
      have HC1 := Lib.hid hc1
      clear hc1
      by_cases hlt : k < m
      · have HV := Lib.hid (nextV_in (ar := xs) (t := t) (k := k) (by rw [h'.1]; exact hlt))
        by_cases hneg : nextV xs t k < 0
        · have HE := Lib.hid (Mid.stop hmid.out (by rw [h'.1]; omega) rfl (by rw [← HV.out]; exact hneg))
          go_wp2_with fail
          go_ret
          exact ⟨false, _, rfl, hb1, HC1.out, by simp, fun _ => HE.out⟩
        · have hmid2 := Lib.hid (Mid.step hmid.out hpk (by rw [h'.1]; omega) rfl (by rw [← HV.out]; omega))
          have hbd := Pl.nxt_bd HS.out (t.getD k 0)
          have hc2 : Hid (Cur w1 b A n c B m d (k + 1)) := by have := HC1.out; rw [stepTo_pos (by omega)] at this; exact Lib.hid this
          clear HC1
          obtain ⟨r, hr⟩ : ∃ r : Nat, nextV xs t k = r := ⟨(nextV xs t k).toNat, by omega⟩
          have hr3 : r ≤ 3 := by rw [← HV.out, hr] at hbd; omega
          rw [← HV.out, hr, Int.toNat_natCast] at hmid2
          rw [hr]
          clear hr hneg HV hbd
          have hat2 := Lib.hid (curAt_of hc2.out)
          go_wp2_with fail
          go_roundw
          case rel => exact ⟨k + 1, q + r, by omega, by omega, by omega, by go_num, hc2, hmid2, hb1⟩
          case measure => rw [hat.out, hat2.out]; omega
      · have HV := Lib.hid (nextV_out (ar := xs) (t := t) (k := k) (by rw [h'.1]; exact hlt))
        have HE := Lib.hid (Mid.out_ hmid.out (by rw [h'.1]; omega))
        rw [HV.out]
        go_wp2_with fail
        go_ret
        exact ⟨false, _, rfl, hb1, HC1.out, by simp, fun _ => HE.out⟩
end Go.Proofs.Ytcjgcopkeeiicaa
