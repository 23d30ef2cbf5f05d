/- Contracts: TextTerm, the program's. -/
import Derived.Test.YtlcchafcgidpeaaDoorTxtQ
namespace Go.Proofs.YtlcchafcgidpeaaDoor
open Go.RowKit
set_option linter.unusedVariables false
set_option linter.unusedSimpArgs false

theorem readT_len {xs t : List Int} {l : List UInt8} (h : Pl.readT xs l = some t) : t.length ≤ 60 := (Pl.termOk_iff.1 (Pl.readT_iff.1 h).1).2.1.2
theorem bd_TextTerm (xs : List Int) (s : ByteArray) : (V_TextTerm xs s).1.length ≤ 60 := by
  unfold V_TextTerm
  split
  · simp
  · cases h : Pl.readT xs s.data.toList with
    | none => simp
    | some t => exact readT_len h
set_option maxHeartbeats 2000000 in
set_option maxRecDepth 20000 in
theorem I_TextTerm (A : Option Addr) (n c : Nat) (xs : List Int) (s : ByteArray) (w : World) (h : RI w A n xs) (hn : n ≤ 1048576) (_ : s.size ≤ 1048576) :
    Calls Tryd.prog 34 #[.agg #[.slice A n c], .string s] w fun e w' => ∃ A' c', e = .returned (.tuple #[.slice A' (V_TextTerm xs s).1.length c', .bool (V_TextTerm xs s).2]) ∧ OI w' w.heap.size A' (V_TextTerm xs s).1.length c' (V_TextTerm xs s).1 ∧ Below w.heap.size w w' := by
  have hB0 : Below w.heap.size w (w.alloc (.cells #[.slice A n c] 30)) := (Below.refl _ _).alloc (Nat.le_refl _) _
  by_cases h4 : 400 < s.size
  · have HE := Lib.hid (V_TextTerm_long (xs := xs) h4)
    go_enter Tryd.func34, Tryd.ntmps34
    go_wp2_with fail
    go_ret2
    rw [HE.out]
    exact ⟨none, 0, rfl, World.ownsRow_nil _ _ _ _, hB0⟩
  have HNO := Lib.hid (fun h => V_TextTerm_none (xs := xs) (s := s) h)
  have HYE := Lib.hid (fun t h => V_TextTerm_some (xs := xs) (t := t) (s := s) h4 h)
  have r0 := h.below hB0
  have bx0 := Blk.new w 30 #[.slice A n c]
  have KX0 : ∀ i, (w.alloc (.cells #[.slice A n c] 30)).cell? ⟨w.heap.size, i, none⟩ = #[Value.slice A n c][i]? := fun i => bx0.cell i
  go_enter Tryd.func34, Tryd.ntmps34
  go_wp2_with fail
  generalize w.alloc (.cells #[.slice A n c] 30) = W0 at *
  have hs0 := hB0.size
  refine (parseTerm_any A n c xs s W0 r0 hn (by omega)).mono ?_
  rintro e w1 ⟨A', ys, c', rfl, hO, hy, hyl, hb1⟩
  have hB1 := hB0.trans (hb1.mono hs0)
  cases hq : Pl.readT xs s.data.toList with
  | none =>
    have HE := Lib.hid (HNO.out hq)
    clear hq HNO HYE hO hy
    go_wp2_with fail
    go_ret2
    rw [HE.out]
    exact ⟨none, 0, rfl, World.ownsRow_nil _ _ _ _, hB1⟩
  | some t =>
    obtain rfl := hy t hq
    have HE := Lib.hid (HYE.out _ hq)
    have HO := Lib.hid (hO.base (B' := w.heap.size) hs0)
    clear hq HNO HYE hO hy
    go_wp2_with fail
    go_ret2
    rw [HE.out]
    exact ⟨A', c', rfl, HO.out, hB1⟩
end Go.Proofs.YtlcchafcgidpeaaDoor
