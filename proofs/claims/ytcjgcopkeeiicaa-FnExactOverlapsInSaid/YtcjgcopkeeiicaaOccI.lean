/- Contracts: does a variable occur in a term, the program's way. -/
import Derived.Test.YtcjgcopkeeiicaaRoot
namespace Go.Proofs.Ytcjgcopkeeiicaa
open Go.RowKit
set_option linter.unusedVariables false
set_option linter.unusedSimpArgs false

/-- The variables that have been seen, as cells. -/
def seenL (S : Nat → Bool) : List Value := (List.range 48).map fun i => .bool (S i)
theorem seenL_len (S : Nat → Bool) : (seenL S).length = 48 := by simp [seenL]
theorem seenL_at (S : Nat → Bool) {i : Nat} (hi : i < 48) : (seenL S).toArray[i]? = some (.bool (S i)) := by simp [seenL, hi]
theorem seenL_set (S : Nat → Bool) (i : Nat) : (seenL S).toArray.setIfInBounds i (.bool true) = (seenL (Un.mark S i)).toArray := by
  rw [List.setIfInBounds_toArray]
  congr 1
  apply List.ext_getElem?
  intro j
  rw [List.getElem?_set]
  simp only [seenL, List.length_map, List.length_range, List.getElem?_map]
  by_cases hij : i = j
  · subst hij
    rw [if_pos rfl]
    by_cases hi : i < 48
    · simp [hi, Un.mark_same]
    · simp [hi]
  · rw [if_neg hij]
    by_cases hj : j < 48
    · simp [hj, Un.mark, Ne.symm hij]
    · simp [hj]
theorem only_far {U S : Nat} {w0 w w' : World} (h : Only U (U + 1) w0 w) (h' : Only S (S + 1) w w') (hS : w0.heap.size ≤ S) : Only U (U + 1) w0 w' :=
  ⟨h'.os.trans h.os, h'.tape.trans h.tape, h'.output.trans h.output, Nat.le_trans h.size h'.size, fun k hk hd => (h'.block k (Nat.lt_of_lt_of_le hk h.size) (by omega)).trans (h.block k hk hd)⟩
theorem Bnd.only {w0 w w' : World} {G S : Nat} {T : TypeId} {hd : List Value} {B : Un.Bd} (h : Bnd w0 w G T hd B) (h' : Only S (S + 1) w w') (hne : G ≠ S) : Bnd w0 w' G T hd B := by
  obtain ⟨vs, hl, hk, hv⟩ := h
  exact ⟨vs, hl, (h'.block G hk.lt (by omega)).trans hk, hv⟩
theorem only_drewN {lo hi : Nat} {a w : World} (h : Only lo hi a w) (n : Nat) : Only lo hi a (w.drewN n) := ⟨h.os, h.tape, h.output, h.size, h.block⟩

/-- What a search for x in t tells. -/
def OccD (T : TypeId) (B : Un.Bd) (σ : Int → List Int) (x : Int) (S0 : Nat → Bool) (t : List Int) (Sb : Nat) (w : World) (e : Ending) (w' : World) : Prop :=
  ∃ (r : Bool) (S' : Nat → Bool), e = .returned (.bool r) ∧ Only Sb (Sb + 1) w w' ∧ Blk w' Sb T (seenL S').toArray ∧ (r = true → x ∈ Un.ap σ t) ∧ (r = false → Un.Cl B x S0 S' ∧ Un.Cov x S' t)
section
variable {T : TypeId} {B : Un.Bd} {σ : Int → List Int} {x : Int} {S0 : Nat → Bool} {t : List Int} {Sb : Nat} {w w' : World}
theorem OccD.yes {S' : Nat → Bool} (h1 : Only Sb (Sb + 1) w w') (h2 : Blk w' Sb T (seenL S').toArray) (h3 : x ∈ Un.ap σ t) : OccD T B σ x S0 t Sb w (.returned (.bool true)) w' := ⟨true, S', rfl, h1, h2, fun _ => h3, fun h => by cases h⟩
theorem OccD.no {S' : Nat → Bool} (h1 : Only Sb (Sb + 1) w w') (h2 : Blk w' Sb T (seenL S').toArray) (h3 : Un.Cl B x S0 S') (h4 : Un.Cov x S' t) : OccD T B σ x S0 t Sb w (.returned (.bool false)) w' := ⟨false, S', rfl, h1, h2, (fun h => by cases h), fun _ => ⟨h3, h4⟩⟩
end
theorem take_snocI {t : List Int} {k : Nat} {y : Int} (hk : k < t.length) (hy : y = t.getD k 0) : t.take (k + 1) = t.take k ++ [y] := by
  rw [List.take_succ_eq_append_getElem hk, hy]
  simp [List.getD_eq_getElem?_getD, hk]
set_option maxHeartbeats 2000000 in
theorem occurs_any (f : Int → Int) (U : Nat) (S : Value) (w0 : World) (B : Un.Bd) (σ : Int → List Int) (rk : Int → Nat) (gd : Un.Good f 48 B σ rk) (x : Int) (hx : x < 0) (hbx : B (Un.ix x) = []) :
    ∀ (K : Nat) (t : List Int) (v : Value) (Sb : Nat) (S0 : Nat → Bool) (w : World), Un.un S0 ≤ K → SV w0 U v t → t ≠ [] → Un.In 48 t → Bnd w0 w U 95 [S] B → Only U (U + 1) w0 w → w0.heap.size ≤ Sb → U < w0.heap.size → Blk w Sb 114 (seenL S0).toArray →
    Calls Try.prog 80 #[.pointer (some ⟨U, 0, none⟩), .int .i64 x, v, .pointer (some ⟨Sb, 0, none⟩)] w (OccD 114 B σ x S0 t Sb w) := by
  intro K
  induction K using Nat.strongRecOn with
  | ind K ih =>
    intro t v Sb S0 w hK hv hne hin hb ho hSb hU hbk
    have GD := Lib.hid gd
    have HBX := Lib.hid hbx
    obtain ⟨g, off, c, rfl, hri, hg, h1, h2, h3, h4⟩ := hv.some_ hne
    clear gd hbx hv hne
    go_enter Try.func80, Try.ntmps80
    go_wp2
    go_loopw [14] (fun i wr => ∃ (k : Nat) (S1 : Nat → Bool), k ≤ t.length ∧ i = .int .i64 k ∧ Only Sb (Sb + 1) w wr ∧ Hid (Blk wr Sb 114 (seenL S1).toArray) ∧ Hid (Un.Cl B x S0 S1) ∧ Hid (Un.Cov x S1 (t.take k))) (fun i _ => t.length - (intOf i).toNat)
    case atStart => exact ⟨0, S0, Nat.zero_le _, rfl, Only.refl _ _ _, hbk, Un.Cl.refl _ _ _, Lib.hid (by rw [List.take_zero]; exact Un.Cov.nil _ _)⟩
    case round =>
      obtain ⟨k, S1, hk, rfl, hos, hbk1, hcl, hcov⟩ := hrel
      by_cases hlt : k < t.length
      · have hor := only_far ho hos hSb
        obtain ⟨g', off', m, hA, hc, hm⟩ := (ri_only hri (fun _ a ha => by injection ha with ha; subst ha; exact hg) hor).at_ hlt
        injection hA with hA
        injection hA with hA1 hA2
        subst hA1 hA2
        have HTK := Lib.hid (take_snocI hlt hm.out)
        have hbd := hb.only hos (by omega)
        have hmem : m ∈ t := by rw [hm.out]; exact Pl.getD_mem hlt
        cases hmx : (m == x)
        · have hmne : m ≠ x := by simpa using hmx
          cases hm0 : decide (0 ≤ m)
          · have hneg : m < 0 := by simpa using hm0
            have hi : Un.ix m < 48 := hin m hmem hneg
            have e1 : IntKind.i64.wrap (-1 - m) = (Un.ix m : Int) := by have := Un.ix_neg hneg; rw [this]; exact IntWalk.i64_in _ (by omega)
            have hsc : wr.cell? ⟨Sb, Un.ix m, none⟩ = some (.bool (S1 (Un.ix m))) := by rw [hbk1.out.cell, seenL_at _ hi]
            cases hsee : S1 (Un.ix m)
            · have hun := Un.un_mark hi hsee
              have hun2 := Un.un_le hcl.out.sub
              have hIH := ih (Un.un (Un.mark S1 (Un.ix m))) (by omega) (B (Un.ix m))
              have hdeep := Lib.hid (fun hb' ho' => Un.occ_deep (x := x) GD.out hneg hb' hmem ho')
              have hinB := GD.out.inB (Un.ix m)
              rw [hsee] at hsc
              have HSE := Lib.hid hsee
              have hbk2 := hbk1.out.set_ (Un.ix m) (.bool true)
              rw [seenL_set] at hbk2
              have hos2 := hos.setCell (p := ⟨Sb, Un.ix m, none⟩) (by simp) (.bool true)
              have hbd2 := hb.only hos2 (by omega)
              have hor2 := only_far ho hos2 hSb
              have hfz := hbk1.out.frozen (Un.ix m)
              obtain ⟨v', hcU, hsv⟩ := hbd2.cell hi
              simp only [List.length_singleton] at hcU
              have HMN := Lib.hid hneg
              clear hsee hmem hm hun hun2
              generalize hie : Un.ix m = i at *
              have HIX := Lib.hid hie
              clear hie
              have hi0 : (0 : Int) ≤ (i : Int) := by omega
              have hi1 : (i : Int) < 48 := by omega
              by_cases hbe : B i = []
              · have hcl2 := Lib.hid (hcl.out.nil hbe)
                rw [hbe] at hsv
                obtain ⟨c', rfl⟩ := hsv.none_
                have hcov2 := Lib.hid ((hcov.out.mono (S' := Un.mark S1 i) (fun _ => Un.mark_sub)).snoc hmne (fun _ => by rw [HIX.out]; exact Un.mark_same _ _))
                rw [← HTK.out] at hcov2
                clear hbe
                go_wp2
                go_roundw
                case rel => exact ⟨k + 1, _, by omega, by go_num, hos2, Lib.hid hbk2, hcl2, hcov2⟩
                case measure => simp [intOf]; omega
              · obtain ⟨g2, off2, c2, rfl, hri2, hg2, _⟩ := hsv.some_ hbe
                go_wp2_with fail
                have mk := hIH _ Sb _ _ (Nat.le_refl _) hsv hbe hinB hbd2 hor2 hSb hU hbk2
                have HBE := Lib.hid hbe
                clear hbe hIH
                refine mk.mono ?_
                rintro e w3 ⟨r, S3, rfl, ho3, hb3, hy, hn⟩
                have HY := Lib.hid hy
                have HN := Lib.hid hn
                clear mk hy hn
                cases r
                · have hcov2 := Lib.hid ((hcov.out.mono (S' := S3) (fun j hj => (HN.out rfl).1.sub j (Un.mark_sub hj))).snoc hmne (fun _ => by rw [HIX.out]; exact (HN.out rfl).1.sub i (Un.mark_same _ _)))
                  rw [← HTK.out] at hcov2
                  have hcl2 := Lib.hid (hcl.out.rec_ (HN.out rfl).1 (HN.out rfl).2)
                  go_wp2_with fail
                  go_roundw
                  case rel => exact ⟨k + 1, _, by omega, by go_num, hos2.trans ho3, Lib.hid hb3, hcl2, hcov2⟩
                  case measure => simp [intOf]; omega
                · have HYY := Lib.hid (hdeep.out HBE.out (HY.out rfl))
                  go_wp2_with fail
                  go_ret
                  exact OccD.yes (hos2.trans ho3) hb3 HYY.out
            · rw [hsee] at hsc
              have hcov2 := Lib.hid (hcov.out.snoc hmne (fun _ => hsee))
              rw [← HTK.out] at hcov2
              clear hsee hmem hm
              generalize Un.ix m = i at *
              have hi0 : (0 : Int) ≤ (i : Int) := by omega
              have hi1 : (i : Int) < 48 := by omega
              go_wp2
              go_roundw
              case rel => exact ⟨k + 1, S1, by omega, by go_num, hos, hbk1, hcl, hcov2⟩
              case measure => simp [intOf]; omega
          · have hcov2 := Lib.hid (hcov.out.snoc (y := m) hmne (fun h0 => absurd (show 0 ≤ m by simpa using hm0) (by omega)))
            rw [← HTK.out] at hcov2
            clear hmem hm
            go_wp2
            go_roundw
            case rel => exact ⟨k + 1, S1, by omega, by go_num, hos, hbk1, hcl, hcov2⟩
            case measure => simp [intOf]; omega
        · have hoc := Lib.hid (Un.occ_mem GD.out hx HBX.out (t := t) (x := x) (by have e : m = x := (by simpa using hmx); rw [← e]; exact hmem))
          clear hmem hm
          go_wp2
          go_ret
          exact OccD.yes hos hbk1.out hoc.out
      · have hkn : k = t.length := by omega
        subst hkn
        go_wp2
        go_ret
        refine OccD.no hos hbk1.out hcl.out ?_
        have := hcov.out
        rwa [List.take_of_length_le (Nat.le_refl _)] at this
end Go.Proofs.Ytcjgcopkeeiicaa
