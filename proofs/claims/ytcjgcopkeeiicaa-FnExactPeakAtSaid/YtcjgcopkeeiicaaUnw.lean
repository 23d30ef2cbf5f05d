/- Words for memory: the terms that variables have. -/
import Derived.Test.YtcjgcopkeeiicaaUnp
import Derived.Test.YtcjgcopkeeiicaaMat
namespace Go.Proofs.Ytcjgcopkeeiicaa
open Go.RowKit
set_option linter.unusedVariables false

/-- A slice that reads as a term in a world in which block G alone has been written since w0. -/
def SV (w0 : World) (G : Nat) (v : Value) (t : List Int) : Prop :=
  ∃ A n c, v = .slice A n c ∧ RI w0 A n t ∧ (0 < n → ∀ a, A = some a → a.block ≠ G) ∧ n ≤ c ∧ c ≤ 9223372036854775807 ∧ n ≤ 60 ∧ (A = none ↔ n = 0)
theorem ri_only {w0 w : World} {G : Nat} {A : Option Addr} {n : Nat} {t : List Int} (h : RI w0 A n t) (hg : 0 < n → ∀ a, A = some a → a.block ≠ G) (ho : Only G (G + 1) w0 w) : RI w A n t := by
  refine ⟨h.1, fun hn => ?_⟩
  obtain ⟨g, off, hA, hc⟩ := h.2 hn
  have := hg hn _ hA
  dsimp only at this
  exact ⟨g, off, hA, fun k hk => keepO ho (by dsimp only; omega) (hc k hk)⟩
theorem SV.some_ {w0 : World} {G : Nat} {v : Value} {t : List Int} (h : SV w0 G v t) (hn : t ≠ []) : ∃ g off c, v = .slice (some ⟨g, off, none⟩) t.length c ∧ RI w0 (some ⟨g, off, none⟩) t.length t ∧ g ≠ G ∧ t.length ≤ c ∧ c ≤ 9223372036854775807 ∧ t.length ≤ 60 ∧ 1 ≤ t.length := by
  obtain ⟨A, n, c, rfl, hr, hg, h1, h2, h3, h4⟩ := h
  have hl := hr.1
  subst hl
  have h1' : 1 ≤ t.length := List.length_pos_iff.2 hn
  obtain ⟨g, off, rfl, hc⟩ := hr.2 h1'
  exact ⟨g, off, c, rfl, hr, hg h1' _ rfl, h1, h2, h3, h1'⟩
theorem SV.none_ {w0 : World} {G : Nat} {v : Value} (h : SV w0 G v []) : ∃ c, v = .slice none 0 c := by
  obtain ⟨A, n, c, rfl, hr, hg, h1, h2, h3, h4⟩ := h
  have hl : n = 0 := hr.1.symm
  subst hl
  obtain rfl := h4.2 rfl
  exact ⟨c, rfl⟩
theorem SV.mk_ {w0 : World} {G g off n c : Nat} {t : List Int} (hr : RI w0 (some ⟨g, off, none⟩) n t) (hg : g ≠ G) (h1 : n ≤ c) (h2 : c ≤ 9223372036854775807) (h3 : n ≤ 60) (h4 : 1 ≤ n) : SV w0 G (.slice (some ⟨g, off, none⟩) n c) t :=
  ⟨_, _, _, rfl, hr, fun _ a ha => by injection ha with ha; subst ha; exact hg, h1, h2, h3, by simp; omega⟩
theorem SV.nil (w0 : World) (G : Nat) : SV w0 G (.slice none 0 0) [] := ⟨none, 0, 0, rfl, ⟨rfl, fun h => by omega⟩, fun h => by omega, Nat.le_refl _, by omega, by omega, by simp⟩

/-- The block with the terms of 48 variables, behind the cells hd. -/
def Bnd (w0 w : World) (G : Nat) (T : TypeId) (hd : List Value) (B : Un.Bd) : Prop :=
  ∃ vs : List Value, vs.length = 48 ∧ Blk w G T (hd ++ vs).toArray ∧ ∀ i, i < 48 → SV w0 G (vs.getD i .nilFunc) (B i)
section
variable {w0 w w' : World} {G : Nat} {T : TypeId} {hd : List Value} {B : Un.Bd}
theorem Bnd.cell (h : Bnd w0 w G T hd B) {i : Nat} (hi : i < 48) : ∃ v, w.cell? ⟨G, hd.length + i, none⟩ = some v ∧ SV w0 G v (B i) := by
  obtain ⟨vs, hl, hb, hv⟩ := h
  refine ⟨_, ?_, hv i hi⟩
  rw [hb.cell]
  simp [List.getD_eq_getElem?_getD, hl, hi]
theorem Bnd.head (h : Bnd w0 w G T hd B) {i : Nat} (hi : i < hd.length) : w.cell? ⟨G, i, none⟩ = some (hd.getD i .nilFunc) := by
  obtain ⟨vs, hl, hb, hv⟩ := h
  rw [hb.cell]
  simp [List.getD_eq_getElem?_getD, List.getElem?_append_left hi, hi]
theorem Bnd.frozen (h : Bnd w0 w G T hd B) (i : Nat) : w.frozen? ⟨G, i, none⟩ = false := by
  obtain ⟨vs, hl, hb, hv⟩ := h
  exact hb.frozen i
theorem Bnd.lt (h : Bnd w0 w G T hd B) : G < w.heap.size := by
  obtain ⟨vs, hl, hb, hv⟩ := h
  exact hb.lt
theorem Bnd.below (h : Bnd w0 w G T hd B) (hb : Below w.heap.size w w') : Bnd w0 w' G T hd B := by
  obtain ⟨vs, hl, hk, hv⟩ := h
  exact ⟨vs, hl, hk.below hb, hv⟩
theorem Bnd.drewN (h : Bnd w0 w G T hd B) (n : Nat) : Bnd w0 (w.drewN n) G T hd B := h
theorem Bnd.set_ (h : Bnd w0 w G T hd B) {i : Nat} (hi : i < 48) {v : Value} {t : List Int} (hv : SV w0 G v t) : Bnd w0 (w.setCell ⟨G, hd.length + i, none⟩ v) G T hd (Un.put B i t) := by
  obtain ⟨vs, hl, hk, hs⟩ := h
  refine ⟨vs.set i v, by simpa using hl, ?_, fun j hj => ?_⟩
  · have := hk.set_ (hd.length + i) v
    rw [List.setIfInBounds_toArray, List.set_append_right _ _ (by omega)] at this
    rw [show hd.length + i - hd.length = i by omega] at this
    exact this
  · by_cases he : j = i
    · subst he
      rw [Un.put_same]
      have : (vs.set j v).getD j .nilFunc = v := by simp [List.getD_eq_getElem?_getD, hl, hj]
      rw [this]; exact hv
    · rw [Un.put_other he]
      have : (vs.set i v).getD j .nilFunc = vs.getD j .nilFunc := by simp [List.getD_eq_getElem?_getD, Ne.symm he]
      rw [this]; exact hs j hj
theorem only_set (h : Only G (G + 1) w0 w) (i : Nat) (v : Value) : Only G (G + 1) w0 (w.setCell ⟨G, i, none⟩ v) := h.setCell (by simp) v
end
end Go.Proofs.Ytcjgcopkeeiicaa
