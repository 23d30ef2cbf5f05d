/- Contracts: roots. -/
import Derived.Test.YtcjgcopkeeiicaaUnw
import Derived.Test.YtcjgcopkeeiicaaTerm
import Derived.Deep.LoopGhost
namespace Go.Proofs.Ytcjgcopkeeiicaa
open Go.RowKit
set_option linter.unusedVariables false

set_option maxHeartbeats 1000000 in
theorem root_any (f : Int → Int) (U : Nat) (S : Value) (w0 : World) (B : Un.Bd) (k : Nat) (t u : List Int) (v : Value) (w : World)
    (hb : Bnd w0 w U 95 [S] B) (ho : Only U (U + 1) w0 w) (hI : ∀ i, Un.In 48 (B i)) (hv : SV w0 U v t) (ht : Un.WT f t) (hr : Un.RoN B k t u) :
    Calls Try.prog 79 #[.pointer (some ⟨U, 0, none⟩), v] w fun e w' => ∃ v', e = .returned v' ∧ SV w0 U v' u ∧ Below w.heap.size w w' := by
  have HB := Lib.hid hb
  have HV := Lib.hid hv
  have HR := Lib.hid hr
  have HI := Lib.hid ht.2
  have hne := ht.ne
  clear hb hv hr ht
  go_enter Try.func79, Try.ntmps79
  go_wp2
  go_loopg [1] k (fun g s wr => ∃ t, Hid (SV w0 U s t) ∧ t ≠ [] ∧ Hid (Un.In 48 t) ∧ Hid (Un.RoN B g t u) ∧ Below w.heap.size w wr)
  case atStart => exact ⟨t, HV, hne, HI, HR, Below.refl _ _⟩
  case round =>
    obtain ⟨t, hs, hne, hin, hr, hbl⟩ := hrel
    obtain ⟨g, off, c, hsv, hri, hg, h1, h2, h3, h4⟩ := hs.out.some_ hne
    subst hsv
    have hx : wr.cell? ⟨g, off, none⟩ = some (.int .i64 (Un.hd t)) := by
      have := ((ri_only hri (fun _ a ha => by injection ha with ha; subst ha; exact hg) (ho.trans (Only.of hbl))).at_ (k := 0) h4)
      obtain ⟨g', off', x', e1, e2, e3⟩ := this
      injection e1 with e1
      injection e1 with e1 e4
      subst e1 e4
      rw [e3.out] at e2
      exact e2
    obtain ⟨x, hxe⟩ : ∃ x, Un.hd t = x := ⟨_, rfl⟩
    rw [hxe] at hx
    have HX := Lib.hid hxe
    clear hxe
    have hbd := HB.out.below hbl
    cases h0 : decide (x < 0)
    · have hn0 : ¬ x < 0 := by simpa using h0
      go_wp2
      go_quiet (fail)
      go_wp2
      go_ret
      refine ⟨_, rfl, ?_, below_drewN hbl _⟩
      cases gk with
      | zero => rw [hr.out.1]; exact hs.out
      | succ n => have k1 := hr.out.1; rw [HX.out] at k1; omega
    · have hneg : x < 0 := by simpa using h0
      have hi : Un.ix x < 48 := by have := hin.out x (by rw [← HX.out]; exact Pl.getD_mem h4) hneg; exact this
      have hin2 := Lib.hid (hI (Un.ix x))
      have e1 : IntKind.i64.wrap (-1 - x) = (Un.ix x : Int) := by have := Un.ix_neg hneg; rw [this]; exact IntWalk.i64_in _ (by omega)
      have HXI : Hid (Un.ix (Un.hd t) = Un.ix x) := Lib.hid (by rw [HX.out])
      obtain ⟨v', hc, hsv⟩ := hbd.cell hi
      simp only [List.length_singleton] at hc
      by_cases hbe : B (Un.ix x) = []
      · rw [hbe] at hsv
        obtain ⟨c', rfl⟩ := hsv.none_
        have HBE := Lib.hid hbe
        clear hbe
        generalize Un.ix x = i at *
        have hi0 : (0 : Int) ≤ (i : Int) := by omega
        have hi1 : (i : Int) < 48 := by omega
        go_wp2
        go_quiet (fail)
        go_wp2
        go_ret
        refine ⟨_, rfl, ?_, below_drewN hbl _⟩
        cases gk with
        | zero => rw [hr.out.1]; exact hs.out
        | succ n => exact absurd (by rw [HXI.out]; exact HBE.out) hr.out.2.1
      · obtain ⟨g', off', c', rfl, hri', hg', h1', h2', h3', h4'⟩ := hsv.some_ hbe
        have HBE := Lib.hid hbe
        have HSV := Lib.hid hsv
        clear hbe hsv
        generalize Un.ix x = i at *
        have hi0 : (0 : Int) ≤ (i : Int) := by omega
        have hi1 : (i : Int) < 48 := by omega
        go_wp2
        go_quiet (fail)
        go_wp2
        go_quiet (fail)
        go_wp2
        cases gk with
        | zero => exact absurd ⟨by rw [HX.out]; exact hneg, by rw [HXI.out]; exact HBE.out⟩ hr.out.2
        | succ n =>
          have hr2 := hr.out.2.2
          rw [HXI.out] at hr2
          go_roundg n
          case rel => exact ⟨B i, HSV, HBE.out, hin2, Lib.hid hr2, below_drewN (below_drewN hbl _) _⟩
          case measure => omega
set_option maxHeartbeats 1000000 in
theorem l11Head_any (f : Int → Int) (p U : Nat) (w0 : World) (B : Un.Bd) (k : Nat) (t u : List Int) (v : Value) (w : World)
    (hp : w.cell? ⟨p, 0, none⟩ = some (.slice (some ⟨U, 0, none⟩) 48 48)) (hb : Bnd w0 w U 22 [] B) (ho : Only U (U + 1) w0 w) (hI : ∀ i, Un.In 48 (B i)) (hv : SV w0 U v t) (ht : Un.WT f t) (hr : Un.RoN B k t u) :
    Calls Try.prog 71 #[.pointer (some ⟨p, 0, none⟩), v] w fun e w' => ∃ v', e = .returned v' ∧ SV w0 U v' u ∧ Below w.heap.size w w' := by
  have HB := Lib.hid hb
  have HV := Lib.hid hv
  have HR := Lib.hid hr
  have HI := Lib.hid ht.2
  have hne := ht.ne
  clear hb hv hr ht
  go_enter Try.func71, Try.ntmps71
  go_wp2
  go_loopg [1] k (fun g s wr => ∃ t, Hid (SV w0 U s t) ∧ t ≠ [] ∧ Hid (Un.In 48 t) ∧ Hid (Un.RoN B g t u) ∧ Below w.heap.size w wr)
  case atStart => exact ⟨t, HV, hne, HI, HR, Below.refl _ _⟩
  case round =>
    obtain ⟨t, hs, hne, hin, hr, hbl⟩ := hrel
    obtain ⟨g, off, c, hsv, hri, hg, h1, h2, h3, h4⟩ := hs.out.some_ hne
    subst hsv
    have hx : wr.cell? ⟨g, off, none⟩ = some (.int .i64 (Un.hd t)) := by
      have := ((ri_only hri (fun _ a ha => by injection ha with ha; subst ha; exact hg) (ho.trans (Only.of hbl))).at_ (k := 0) h4)
      obtain ⟨g', off', x', e1, e2, e3⟩ := this
      injection e1 with e1
      injection e1 with e1 e4
      subst e1 e4
      rw [e3.out] at e2
      exact e2
    obtain ⟨x, hxe⟩ : ∃ x, Un.hd t = x := ⟨_, rfl⟩
    rw [hxe] at hx
    have HX := Lib.hid hxe
    clear hxe
    have hbd := HB.out.below hbl
    have hpr := keepC hbl hp
    cases h0 : decide (x < 0)
    · have hn0 : ¬ x < 0 := by simpa using h0
      go_wp2
      go_quiet (fail)
      go_wp2
      go_ret
      refine ⟨_, rfl, ?_, below_drewN hbl _⟩
      cases gk with
      | zero => rw [hr.out.1]; exact hs.out
      | succ n => have k1 := hr.out.1; rw [HX.out] at k1; omega
    · have hneg : x < 0 := by simpa using h0
      have hi : Un.ix x < 48 := by have := hin.out x (by rw [← HX.out]; exact Pl.getD_mem h4) hneg; exact this
      have hin2 := Lib.hid (hI (Un.ix x))
      have e1 : IntKind.i64.wrap (-1 - x) = (Un.ix x : Int) := by have := Un.ix_neg hneg; rw [this]; exact IntWalk.i64_in _ (by omega)
      have HXI : Hid (Un.ix (Un.hd t) = Un.ix x) := Lib.hid (by rw [HX.out])
      obtain ⟨v', hc, hsv⟩ := hbd.cell hi
      simp only [List.length_nil, Nat.zero_add] at hc
      by_cases hbe : B (Un.ix x) = []
      · rw [hbe] at hsv
        obtain ⟨c', rfl⟩ := hsv.none_
        have HBE := Lib.hid hbe
        clear hbe
        generalize Un.ix x = i at *
        have hi0 : (0 : Int) ≤ (i : Int) := by omega
        have hi1 : (i : Int) < 48 := by omega
        go_wp2
        go_quiet (fail)
        go_wp2
        go_ret
        refine ⟨_, rfl, ?_, below_drewN hbl _⟩
        cases gk with
        | zero => rw [hr.out.1]; exact hs.out
        | succ n => exact absurd (by rw [HXI.out]; exact HBE.out) hr.out.2.1
      · obtain ⟨g', off', c', rfl, hri', hg', h1', h2', h3', h4'⟩ := hsv.some_ hbe
        have HBE := Lib.hid hbe
        have HSV := Lib.hid hsv
        clear hbe hsv
        generalize Un.ix x = i at *
        have hi0 : (0 : Int) ≤ (i : Int) := by omega
        have hi1 : (i : Int) < 48 := by omega
        go_wp2
        go_quiet (fail)
        go_wp2
        go_quiet (fail)
        go_wp2
        cases gk with
        | zero => exact absurd ⟨by rw [HX.out]; exact hneg, by rw [HXI.out]; exact HBE.out⟩ hr.out.2
        | succ n =>
          have hr2 := hr.out.2.2
          rw [HXI.out] at hr2
          go_roundg n
          case rel => exact ⟨B i, HSV, HBE.out, hin2, Lib.hid hr2, below_drewN (below_drewN hbl _) _⟩
          case measure => omega
end Go.Proofs.Ytcjgcopkeeiicaa
