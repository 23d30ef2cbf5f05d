/- Contracts: TermText, both sides. -/
import Derived.Test.YtlcchafcgidpeaaDoorTxtI
import Derived.Test.YtlcchafcgidpeaaDoorTerm2
namespace Go.Proofs.YtlcchafcgidpeaaDoor
open Go.RowKit
open Go.Lib (decDigits byteCells IsBuilderF BuilderAtF OthersKept)
set_option linter.unusedVariables false
set_option linter.unusedSimpArgs false

def V_TermText (xs t : List Int) : List UInt8 := if Pl.termOk xs t = true then Pl.txt xs t 0 else []
theorem V_TermText_no {xs t : List Int} (h : Pl.termOk xs t = false) : V_TermText xs t = [] := by unfold V_TermText; rw [h]; rfl
theorem V_TermText_yes {xs t : List Int} (h : Pl.termOk xs t = true) : V_TermText xs t = Pl.txt xs t 0 := by unfold V_TermText; rw [if_pos h]
theorem V_TermText_len (xs t : List Int) : (V_TermText xs t).length ≤ 299 := by
  unfold V_TermText
  split
  · rename_i h; exact (Pl.txt_tk h).2
  · simp
set_option maxHeartbeats 1000000 in
set_option maxRecDepth 20000 in
theorem text_any (A : Option Addr) (n c : Nat) (xs : List Int) (T : Option Addr) (m d : Nat) (t : List Int) (w : World) (h : RI w A n xs) (h' : RI w T m t) (hT : Pl.termOk xs t = true) (hn : n ≤ 1048576) (hm : m ≤ 1048576) :
    Calls Tryd.prog 59 #[.agg #[.slice A n c], .slice T m d] w fun e w' => e = .returned (.string ⟨(Pl.txt xs t 0).toArray⟩) ∧ Below w.heap.size w w' := by
  have hm1 := (Pl.termOk_iff.1 hT).2.1
  rw [h'.1] at hm1
  have htl := (Pl.txt_tk hT).2
  have hf := Go.Lib.fresh_isBuilder 106 5 (w.alloc (.cells #[.slice A n c] 30))
  rw [World.size_alloc] at hf
  have hB0 : Below w.heap.size w ((w.alloc (.cells #[.slice A n c] 30)).alloc (.cells #[.pointer none, .slice none 0 0] 106)) := ((Below.refl _ _).alloc (Nat.le_refl _) _).alloc (by simp) _
  have bx0 := (Blk.new w 30 #[.slice A n c]).alloc (.cells #[.pointer none, .slice none 0 0] 106)
  have hsz : ((w.alloc (.cells #[.slice A n c] 30)).alloc (.cells #[.pointer none, .slice none 0 0] 106)).heap.size = w.heap.size + 1 + 1 := by simp
  have KX : ∀ i, ((w.alloc (.cells #[.slice A n c] 30)).alloc (.cells #[.pointer none, .slice none 0 0] 106)).cell? ⟨w.heap.size, i, none⟩ = #[Value.slice A n c][i]? := fun i => bx0.cell i
  have fA : 0 < n → ∀ a, A = some a → a.block < w.heap.size + 1 := fun hn a ha => by have := h.lt hn a ha; omega
  have fT : 0 < m → ∀ a, T = some a → a.block < w.heap.size + 1 := fun hn a ha => by have := h'.lt hn a ha; omega
  have HF := Lib.hid (IsBuilderF.of hf)
  clear hf
  go_enter Tryd.func59, Tryd.ntmps59
  go_wp2_with fail
  generalize (w.alloc (.cells #[.slice A n c] 30)).alloc (.cells #[.pointer none, .slice none 0 0] 106) = W at *
  have HS := Lib.hid hsz
  clear hsz
  refine (termText_k A n c xs T m d t hT hm hn (w.heap.size + 1) (w.heap.size + 1) fA fT m 0 [] W (h.below hB0) (h'.below hB0) HF.out (by have := HS.out; omega) (by omega) (by omega) (by simp; omega)).mono ?_
  rintro e w1 ⟨rfl, hI, hb1, ho1⟩
  have HI := Lib.hid hI
  have hB1 := hB0.trans (hb1.mono (by omega))
  have hs1 : w.heap.size + 1 ≤ w1.heap.size := by have := hb1.size; have := HS.out; omega
  clear hI hb1 ho1
  go_wp2_with fail
  refine (Tryd.Builder_String_any_k (w.heap.size + 1) (w.heap.size + 1) (Pl.txt xs t 0) w1 HI.out hs1).mono ?_
  rintro e w2 ⟨rfl, hI2, hb2, ho2⟩
  go_wp2_with fail
  go_ret
  exact ⟨rfl, hB1.trans (hb2.mono (by omega))⟩
set_option maxHeartbeats 1000000 in
theorem S_TermText (A : Option Addr) (n c : Nat) (xs : List Int) (B : Option Addr) (m d : Nat) (t : List Int) (w : World) (h : RI w A n xs) (h' : RI w B m t) (hn : n ≤ 1048576) (hm : m ≤ 1048576) :
    Calls Tryd.prog 25 #[.agg #[.slice A n c], .slice B m d] w fun e w' => e = .returned (.string ⟨(V_TermText xs t).toArray⟩) ∧ Below w.heap.size w w' := by
  have hl := h'.1
  cases hs : Pl.termOk xs t
  · have HE := Lib.hid (V_TermText_no hs)
    have HS := Lib.hid hs
    clear hs
    go_enter Tryd.func25, Tryd.ntmps25
    go_wp2_with fail
    refine (specTermOk_any A n c xs B m d t _ (h.alloc _) (h'.alloc _) (by omega) (by omega)).mono ?_
    rintro e w1 ⟨rfl, hb1⟩
    rw [HS.out]
    go_wp2_with fail
    go_ret
    rw [HE.out]
    exact ⟨rfl, below_then ((Below.refl _ _).alloc (Nat.le_refl _) _) hb1 (by simp)⟩
  · have HE := Lib.hid (V_TermText_yes hs)
    have hm1 := (Pl.termOk_iff.1 hs).2.1
    rw [hl] at hm1
    have HT := Lib.hid hs
    clear hs
    go_enter Tryd.func25, Tryd.ntmps25
    go_wp2_with fail
    refine (specTermOk_any A n c xs B m d t _ (h.alloc _) (h'.alloc _) (by omega) (by omega)).mono ?_
    rintro e w1 ⟨rfl, hb1⟩
    rw [HT.out]
    have hB : Below w.heap.size w w1 := below_then ((Below.refl _ _).alloc (Nat.le_refl _) _) hb1 (by simp)
    have bx : w1.cell? ⟨w.heap.size, 0, none⟩ = some (.slice A n c) := (hb1.cell (by simp)).trans (by simp)
    have h1 := (h.alloc _).below hb1
    have h2 := (h'.alloc _).below hb1
    clear hb1
    go_wp2_with fail
    refine (l10Text_k A n c xs B m d t HT.out (by omega) hn m 0 w1 h1 h2 (by omega) (by omega)).mono ?_
    rintro e w2 ⟨rfl, hb2⟩
    go_wp2_with fail
    go_ret
    rw [HE.out]
    exact ⟨rfl, below_then hB hb2 hB.size⟩
set_option maxHeartbeats 1000000 in
theorem I_TermText (A : Option Addr) (n c : Nat) (xs : List Int) (B : Option Addr) (m d : Nat) (t : List Int) (w : World) (h : RI w A n xs) (h' : RI w B m t) (hn : n ≤ 1048576) (hm : m ≤ 1048576) :
    Calls Tryd.prog 27 #[.agg #[.slice A n c], .slice B m d] w fun e w' => e = .returned (.string ⟨(V_TermText xs t).toArray⟩) ∧ Below w.heap.size w w' := by
  have hl := h'.1
  cases hs : Pl.termOk xs t
  · have HE := Lib.hid (V_TermText_no hs)
    have HS := Lib.hid hs
    clear hs
    go_enter Tryd.func27, Tryd.ntmps27
    go_wp2_with fail
    refine (implTermOk_any A n c xs B m d t _ (h.alloc _) (h'.alloc _) (by omega) (by omega)).mono ?_
    rintro e w1 ⟨rfl, hb1⟩
    rw [HS.out]
    go_wp2_with fail
    go_ret
    rw [HE.out]
    exact ⟨rfl, below_then ((Below.refl _ _).alloc (Nat.le_refl _) _) hb1 (by simp)⟩
  · have HE := Lib.hid (V_TermText_yes hs)
    have hm1 := (Pl.termOk_iff.1 hs).2.1
    rw [hl] at hm1
    have HT := Lib.hid hs
    clear hs
    go_enter Tryd.func27, Tryd.ntmps27
    go_wp2_with fail
    refine (implTermOk_any A n c xs B m d t _ (h.alloc _) (h'.alloc _) (by omega) (by omega)).mono ?_
    rintro e w1 ⟨rfl, hb1⟩
    rw [HT.out]
    have hB : Below w.heap.size w w1 := below_then ((Below.refl _ _).alloc (Nat.le_refl _) _) hb1 (by simp)
    have bx : w1.cell? ⟨w.heap.size, 0, none⟩ = some (.slice A n c) := (hb1.cell (by simp)).trans (by simp)
    have h1 := (h.alloc _).below hb1
    have h2 := (h'.alloc _).below hb1
    clear hb1
    go_wp2_with fail
    refine (text_any A n c xs B m d t w1 h1 h2 HT.out hn (by omega)).mono ?_
    rintro e w2 ⟨rfl, hb2⟩
    go_wp2_with fail
    go_ret
    rw [HE.out]
    exact ⟨rfl, below_then hB hb2 hB.size⟩
end Go.Proofs.YtlcchafcgidpeaaDoor
