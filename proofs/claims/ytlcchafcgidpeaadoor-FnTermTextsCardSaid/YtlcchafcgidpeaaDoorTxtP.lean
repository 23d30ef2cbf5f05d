/- Contracts: TextTerm, the reference's. -/
import Derived.Test.YtlcchafcgidpeaaDoorTxtN
import Derived.WideShapes
import Derived.Laws.Strings
namespace Go.Proofs.YtlcchafcgidpeaaDoor
open Go.RowKit
set_option linter.unusedVariables false
set_option linter.unusedSimpArgs false

def V_TextTerm (xs : List Int) (s : ByteArray) : List Int × Bool := if 400 < s.size then ([], false) else match Pl.readT xs s.data.toList with
  | some t => (t, true)
  | none => ([], false)
theorem V_TextTerm_long {xs : List Int} {s : ByteArray} (h : 400 < s.size) : V_TextTerm xs s = ([], false) := by unfold V_TextTerm; rw [if_pos h]
theorem V_TextTerm_none {xs : List Int} {s : ByteArray} (h : Pl.readT xs s.data.toList = none) : V_TextTerm xs s = ([], false) := by
  unfold V_TextTerm
  rw [h]
  split <;> rfl
theorem V_TextTerm_some {xs t : List Int} {s : ByteArray} (h4 : ¬ 400 < s.size) (h : Pl.readT xs s.data.toList = some t) : V_TextTerm xs s = (t, true) := by
  unfold V_TextTerm
  rw [h, if_neg h4]
theorem readT_no {xs : List Int} {l : List UInt8} (h : Pl.nS l [] = none) : Pl.readT xs l = none := by
  unfold Pl.readT
  rw [show Pl.numsS l.length l [] = none from h]
  rfl
theorem readT_bad {xs t : List Int} {l : List UInt8} (h : Pl.nS l [] = some t) (h2 : Pl.termOk xs t = false ∨ Pl.txt xs t 0 ≠ l) : Pl.readT xs l = none := by
  unfold Pl.readT
  rw [show Pl.numsS l.length l [] = some t from h]
  exact if_neg (by rintro ⟨h3, h4⟩; rcases h2 with h2 | h2 <;> simp_all)
theorem readT_yes {xs t : List Int} {l : List UInt8} (h : Pl.termOk xs t = true) (h2 : Pl.txt xs t 0 = l) : Pl.readT xs l = some t := Pl.readT_iff.2 ⟨h, h2⟩
theorem bytes_ne {a : List UInt8} {s : ByteArray} (h : ¬ (⟨a.toArray⟩ : ByteArray) = s) : a ≠ s.data.toList := by
  intro e
  apply h
  subst e
  cases s with | mk d => rfl
theorem bytes_eq {a : List UInt8} {s : ByteArray} (h : (⟨a.toArray⟩ : ByteArray) = s) : a = s.data.toList := by
  subst h
  rfl
theorem toList_ne {a b : ByteArray} (h : ¬ a = b) : (a.toList == b.toList) = false := by
  rw [ByteArray.toList_eq, ByteArray.toList_eq]
  simp only [beq_eq_false_iff_ne, ne_eq]
  exact fun e => h (Go.WideShapes.bytes_inj e)
set_option maxHeartbeats 2000000 in
set_option maxRecDepth 20000 in
theorem S_TextTerm (A : Option Addr) (n c : Nat) (xs : List Int) (s : ByteArray) (w : World) (h : RI w A n xs) (hn : n ≤ 1048576) (_ : s.size ≤ 1048576) :
    Calls Tryd.prog 33 #[.agg #[.slice A n c], .string s] w fun e w' => ∃ A' c', e = .returned (.tuple #[.slice A' (V_TextTerm xs s).1.length c', .bool (V_TextTerm xs s).2]) ∧ OI w' w.heap.size A' (V_TextTerm xs s).1.length c' (V_TextTerm xs s).1 ∧ Below w.heap.size w w' := by
  have hB0 : Below w.heap.size w (w.alloc (.cells #[.slice A n c] 30)) := (Below.refl _ _).alloc (Nat.le_refl _) _
  by_cases h4 : 400 < s.size
  · have HE := Lib.hid (V_TextTerm_long (xs := xs) h4)
    go_enter Tryd.func33, Tryd.ntmps33
    go_wp2_with fail
    go_ret2
    rw [HE.out]
    exact ⟨_, 0, rfl, (by have k_ := oi_emptyO hB0.size; rw [World.size_alloc] at k_; exact k_), hB0.alloc hB0.size _⟩
  have bx0 := Blk.new w 30 #[.slice A n c]
  have HNO := Lib.hid (fun h => V_TextTerm_none (xs := xs) (s := s) h)
  have HYE := Lib.hid (fun t h => V_TextTerm_some (xs := xs) (t := t) (s := s) h4 h)
  go_enter Tryd.func33, Tryd.ntmps33
  go_wp2_with fail
  generalize w.alloc (.cells #[.slice A n c] 30) = W0 at *
  have hs0 := hB0.size
  refine (l10Numbers_any s W0 (by omega)).mono ?_
  rintro e w1 ⟨A', c', rfl, hO, hl1, hb1⟩
  have bx1 := bx0.below hb1
  have hB1 := hB0.trans (hb1.mono hs0)
  have hs1 := hb1.size
  have r1 := (h.below hB0).below hb1
  have KX1 : ∀ i, w1.cell? ⟨w.heap.size, i, none⟩ = #[Value.slice A n c][i]? := fun i => bx1.cell i
  clear bx0 hb1 hB0
  cases hq : Pl.nS s.data.toList [] with
  | none =>
    rw [V_numsS_none hq] at hO hl1 ⊢
    have HE := Lib.hid (HNO.out (readT_no hq))
    clear hq hO HNO HYE
    go_wp2_with fail
    go_ret2
    rw [HE.out]
    exact ⟨_, 0, rfl, oi_emptyO (by omega), hB1.alloc (by omega) _⟩
  | some t =>
    rw [V_numsS_some hq] at hO hl1 ⊢
    have hl2 : t.length ≤ 400 := hl1
    have HO := Lib.hid hO
    have HQ := Lib.hid hq
    clear hq hO hl1
    go_wp2_with fail
    refine (specTermOk_any A n c xs A' t.length c' t w1 r1 HO.out.ri (by omega) (by omega)).mono ?_
    rintro e w2 ⟨rfl, hb2⟩
    have bx2 := bx1.below hb2
    have hB2 := hB1.trans (hb2.mono (by omega))
    have hs2 := hb2.size
    have r2 := r1.below hb2
    have HO2 := Lib.hid (HO.out.below hb2)
    have KX2 : ∀ i, w2.cell? ⟨w.heap.size, i, none⟩ = #[Value.slice A n c][i]? := fun i => bx2.cell i
    clear KX1 bx1 hb2 hB1 r1 HO
    cases hok : Pl.termOk xs t
    · have HE := Lib.hid (HNO.out (readT_bad HQ.out (Or.inl hok)))
      clear hok HNO HYE HQ
      go_wp2_with fail
      go_ret2
      rw [HE.out]
      exact ⟨_, 0, rfl, oi_emptyO (by omega), hB2.alloc (by omega) _⟩
    · have HV := Lib.hid (V_TermText_yes hok)
      have HOK := Lib.hid hok
      clear hok
      go_wp2_with fail
      refine (S_TermText A n c xs A' t.length c' t w2 r2 HO2.out.ri (by omega) (by omega)).mono ?_
      rintro e w3 ⟨rfl, hb3⟩
      rw [HV.out]
      have hB3 := hB2.trans (hb3.mono (by omega))
      have hs3 := hb3.size
      have HO3 := Lib.hid ((HO2.out.below hb3).base (B' := w.heap.size) (by omega))
      have HN2 := Lib.hid (fun hc => HNO.out (readT_bad HQ.out (Or.inr (bytes_ne hc))))
      have HY2 := Lib.hid (fun hc => HYE.out t (readT_yes HOK.out (bytes_eq hc)))
      clear KX2 bx2 hb3 hB2 r2 HO2 HNO HYE HQ HOK
      generalize (⟨(Pl.txt xs t 0).toArray⟩ : ByteArray) = Z at *
      by_cases hc : Z = s
      · have HE := Lib.hid (HY2.out hc)
        clear HN2 HY2
        subst hc
        go_wp2_with fail
        go_ret2
        rw [HE.out]
        exact ⟨A', c', rfl, HO3.out, hB3⟩
      · have HE := Lib.hid (HN2.out hc)
        have hz := toList_ne hc
        have hz2 : (!Z.toList == s.toList) = true := by rw [hz]; rfl
        clear HN2 HY2
        go_wp2_with fail
        go_ret2
        rw [HE.out]
        exact ⟨_, 0, rfl, oi_emptyO (by omega), hB3.alloc (by omega) _⟩
end Go.Proofs.YtlcchafcgidpeaaDoor
