/- Contracts: does a variable occur in a term, the program's way. -/
import Derived.Test.YtcjgcopkeeiicaaRoot
import Derived.Test.YtcjgcopkeeiicaaWideS
namespace Go.Proofs.Ytcjgcopkeeiicaa
open Go.RowKit
set_option linter.unusedVariables false
set_option linter.unusedSimpArgs false

/-- The variables that have been seen, as cells. -/
def seenL (S : Nat → Bool) : List Value := (List.range 48).map fun i => .bool (S i)
theorem seenL_len (S : Nat → Bool) : (seenL S).length = 48 := by simp [seenL]
theorem seenL_at (S : Nat → Bool) {i : Nat} (hi : i < 48) : (seenL S).toArray[i]? = some (.bool (S i)) := by simp [seenL, hi]
theorem seenL_set (S : Nat → Bool) (i : Nat) : (seenL S).toArray.setIfInBounds i (.bool true) = (seenL (Un.mark S i)).toArray := by
  rw [List.setIfInBounds_toArray]
  congr 1
  apply List.ext_getElem?
  intro j
  rw [List.getElem?_set]
  simp only [seenL, List.length_map, List.length_range, List.getElem?_map]
  by_cases hij : i = j
  · subst hij
    rw [if_pos rfl]
    by_cases hi : i < 48
    · simp [hi, Un.mark_same]
    · simp [hi]
  · rw [if_neg hij]
    by_cases hj : j < 48
    · simp [hj, Un.mark, Ne.symm hij]
    · simp [hj]
theorem only_far {U S : Nat} {w0 w w' : World} (h : Only U (U + 1) w0 w) (h' : Only S (S + 1) w w') (hS : w0.heap.size ≤ S) : Only U (U + 1) w0 w' :=
  ⟨h'.os.trans h.os, h'.tape.trans h.tape, h'.output.trans h.output, Nat.le_trans h.size h'.size, fun k hk hd => (h'.block k (Nat.lt_of_lt_of_le hk h.size) (by omega)).trans (h.block k hk hd)⟩
theorem Bnd.only {w0 w w' : World} {G S : Nat} {T : TypeId} {hd : List Value} {B : Un.Bd} (h : Bnd w0 w G T hd B) (h' : Only S (S + 1) w w') (hne : G ≠ S) : Bnd w0 w' G T hd B := by
  obtain ⟨vs, hl, hk, hv⟩ := h
  exact ⟨vs, hl, (h'.block G hk.lt (by omega)).trans hk, hv⟩
theorem only_drewN {lo hi : Nat} {a w : World} (h : Only lo hi a w) (n : Nat) : Only lo hi a (w.drewN n) := ⟨h.os, h.tape, h.output, h.size, h.block⟩

/-- What a search for x in t tells. -/
def OccD (T : TypeId) (B : Un.Bd) (σ : Int → List Int) (x : Int) (S0 : Nat → Bool) (t : List Int) (Sb : Nat) (w : World) (e : Ending) (w' : World) : Prop :=
  ∃ (r : Bool) (S' : Nat → Bool), e = .returned (.bool r) ∧ Only Sb (Sb + 1) w w' ∧ Blk w' Sb T (seenL S').toArray ∧ (r = true → x ∈ Un.ap σ t) ∧ (r = false → Un.Cl B x S0 S' ∧ Un.Cov x S' t)
section
variable {T : TypeId} {B : Un.Bd} {σ : Int → List Int} {x : Int} {S0 : Nat → Bool} {t : List Int} {Sb : Nat} {w w' : World}
theorem OccD.yes {S' : Nat → Bool} (h1 : Only Sb (Sb + 1) w w') (h2 : Blk w' Sb T (seenL S').toArray) (h3 : x ∈ Un.ap σ t) : OccD T B σ x S0 t Sb w (.returned (.bool true)) w' := ⟨true, S', rfl, h1, h2, fun _ => h3, fun h => by cases h⟩
theorem OccD.no {S' : Nat → Bool} (h1 : Only Sb (Sb + 1) w w') (h2 : Blk w' Sb T (seenL S').toArray) (h3 : Un.Cl B x S0 S') (h4 : Un.Cov x S' t) : OccD T B σ x S0 t Sb w (.returned (.bool false)) w' := ⟨false, S', rfl, h1, h2, (fun h => by cases h), fun _ => ⟨h3, h4⟩⟩
end
theorem take_snocI {t : List Int} {k : Nat} {y : Int} (hk : k < t.length) (hy : y = t.getD k 0) : t.take (k + 1) = t.take k ++ [y] := by
  rw [List.take_succ_eq_append_getElem hk, hy]
  simp [List.getD_eq_getElem?_getD, hk]
set_option maxHeartbeats 2000000 in
theorem occurs_any (f : Int → Int) (U : Nat) (S : Value) (w0 : World) (B : Un.Bd) (σ : Int → List Int) (rk : Int → Nat) (gd : Un.Good f 48 B σ rk) (x : Int) (hx : x < 0) (hbx : B (Un.ix x) = []) :
    ∀ (K : Nat) (t : List Int) (v : Value) (Sb : Nat) (S0 : Nat → Bool) (w : World), Un.un S0 ≤ K → SV w0 U v t → t ≠ [] → Un.In 48 t → Bnd w0 w U 95 [S] B → Only U (U + 1) w0 w → w0.heap.size ≤ Sb → U < w0.heap.size → Blk w Sb 114 (seenL S0).toArray →
    Calls Try.prog 80 #[.pointer (some ⟨U, 0, none⟩), .int .i64 x, v, .pointer (some ⟨Sb, 0, none⟩)] w (OccD 114 B σ x S0 t Sb w) := by
  intro K
  induction K using Nat.strongRecOn with
  | ind K ih =>
    intro t v Sb S0 w hK hv hne hin hb ho hSb hU hbk
    have GD := Lib.hid gd
    have HBX := Lib.hid hbx
    obtain ⟨g, off, c, rfl, hri, hg, h1, h2, h3, h4⟩ := hv.some_ hne
    clear gd hbx hv hne
    go_enter Try.func80, Try.ntmps80
    go_wp2
    go_loopw [14] (fun i wr => ∃ (k : Nat) (S1 : Nat → Bool), k ≤ t.length ∧ i = .int .i64 k ∧ Only Sb (Sb + 1) w wr ∧ Hid (Blk wr Sb 114 (seenL S1).toArray) ∧ Hid (Un.Cl B x S0 S1) ∧ Hid (Un.Cov x S1 (t.take k))) (fun i _ => t.length - (intOf i).toNat)
    case atStart => exact ⟨0, S0, Nat.zero_le _, rfl, Only.refl _ _ _, hbk, Un.Cl.refl _ _ _, Lib.hid (by rw [List.take_zero]; exact Un.Cov.nil _ _)⟩
    case round =>
      obtain ⟨k, S1, hk, rfl, hos, hbk1, hcl, hcov⟩ := hrel
      by_cases hlt : k < t.length
      · have hor := only_far ho hos hSb
        obtain ⟨g', off', m, hA, hc, hm⟩ := (ri_only hri (fun _ a ha => by injection ha with ha; subst ha; exact hg) hor).at_ hlt
        injection hA with hA
        injection hA with hA1 hA2
        subst hA1 hA2
        have HTK := Lib.hid (take_snocI hlt hm.out)
        have hbd := hb.only hos (by omega)
        have hmem : m ∈ t := by rw [hm.out]; exact Pl.getD_mem hlt
        cases hmx : (m == x)
        · have hmne : m ≠ x := by simpa using hmx
          cases hm0 : decide (0 ≤ m)
          · have hneg : m < 0 := by simpa using hm0
            have hi : Un.ix m < 48 := hin m hmem hneg
            have e1 : IntKind.i64.wrap (-1 - m) = (Un.ix m : Int) := by have := Un.ix_neg hneg; rw [this]; exact IntWalk.i64_in _ (by omega)
            have hsc : wr.cell? ⟨Sb, Un.ix m, none⟩ = some (.bool (S1 (Un.ix m))) := by rw [hbk1.out.cell, seenL_at _ hi]
            cases hsee : S1 (Un.ix m)
            · have hun := Un.un_mark hi hsee
              have hun2 := Un.un_le hcl.out.sub
              have hIH := ih (Un.un (Un.mark S1 (Un.ix m))) (by omega) (B (Un.ix m))
              have hdeep := Lib.hid (fun hb' ho' => Un.occ_deep (x := x) GD.out hneg hb' hmem ho')
              have hinB := GD.out.inB (Un.ix m)
              rw [hsee] at hsc
              have HSE := Lib.hid hsee
              have hbk2 := hbk1.out.set_ (Un.ix m) (.bool true)
              rw [seenL_set] at hbk2
              have hos2 := hos.setCell (p := ⟨Sb, Un.ix m, none⟩) (by simp) (.bool true)
              have hbd2 := hb.only hos2 (by omega)
              have hor2 := only_far ho hos2 hSb
              have hfz := hbk1.out.frozen (Un.ix m)
              obtain ⟨v', hcU, hsv⟩ := hbd2.cell hi
              simp only [List.length_singleton] at hcU
              have HMN := Lib.hid hneg
              clear hsee hmem hm hun hun2
              generalize hie : Un.ix m = i at *
              have HIX := Lib.hid hie
              clear hie
              have hi0 : (0 : Int) ≤ (i : Int) := by omega
              have hi1 : (i : Int) < 48 := by omega
              by_cases hbe : B i = []
              · have hcl2 := Lib.hid (hcl.out.nil hbe)
                rw [hbe] at hsv
                obtain ⟨c', rfl⟩ := hsv.none_
                have hcov2 := Lib.hid ((hcov.out.mono (S' := Un.mark S1 i) (fun _ => Un.mark_sub)).snoc hmne (fun _ => by rw [HIX.out]; exact Un.mark_same _ _))
                rw [← HTK.out] at hcov2
                clear hbe
                go_wp2
                go_roundw
                case rel => exact ⟨k + 1, _, by omega, by go_num, hos2, Lib.hid hbk2, hcl2, hcov2⟩
                case measure => simp [intOf]; omega
              · obtain ⟨g2, off2, c2, rfl, hri2, hg2, _⟩ := hsv.some_ hbe
                go_wp2_with fail
                have mk := hIH _ Sb _ _ (Nat.le_refl _) hsv hbe hinB hbd2 hor2 hSb hU hbk2
                have HBE := Lib.hid hbe
                clear hbe hIH
                refine mk.mono ?_
                rintro e w3 ⟨r, S3, rfl, ho3, hb3, hy, hn⟩
                have HY := Lib.hid hy
                have HN := Lib.hid hn
                clear mk hy hn
                cases r
                · have hcov2 := Lib.hid ((hcov.out.mono (S' := S3) (fun j hj => (HN.out rfl).1.sub j (Un.mark_sub hj))).snoc hmne (fun _ => by rw [HIX.out]; exact (HN.out rfl).1.sub i (Un.mark_same _ _)))
                  rw [← HTK.out] at hcov2
                  have hcl2 := Lib.hid (hcl.out.rec_ (HN.out rfl).1 (HN.out rfl).2)
                  go_wp2_with fail
                  go_roundw
                  case rel => exact ⟨k + 1, _, by omega, by go_num, hos2.trans ho3, Lib.hid hb3, hcl2, hcov2⟩
                  case measure => simp [intOf]; omega
                · have HYY := Lib.hid (hdeep.out HBE.out (HY.out rfl))
                  go_wp2_with fail
                  go_ret
                  exact OccD.yes (hos2.trans ho3) hb3 HYY.out
            · rw [hsee] at hsc
              have hcov2 := Lib.hid (hcov.out.snoc hmne (fun _ => hsee))
              rw [← HTK.out] at hcov2
              clear hsee hmem hm
              generalize Un.ix m = i at *
              have hi0 : (0 : Int) ≤ (i : Int) := by omega
              have hi1 : (i : Int) < 48 := by omega
              go_wp2
              go_roundw
              case rel => exact ⟨k + 1, S1, by omega, by go_num, hos, hbk1, hcl, hcov2⟩
              case measure => simp [intOf]; omega
          · have hcov2 := Lib.hid (hcov.out.snoc (y := m) hmne (fun h0 => absurd (show 0 ≤ m by simpa using hm0) (by omega)))
            rw [← HTK.out] at hcov2
            clear hmem hm
            go_wp2
            go_roundw
            case rel => exact ⟨k + 1, S1, by omega, by go_num, hos, hbk1, hcl, hcov2⟩
            case measure => simp [intOf]; omega
        · have hoc := Lib.hid (Un.occ_mem GD.out hx HBX.out (t := t) (x := x) (by have e : m = x := (by simpa using hmx); rw [← e]; exact hmem))
          clear hmem hm
          go_wp2
          go_ret
          exact OccD.yes hos hbk1.out hoc.out
      · have hkn : k = t.length := by omega
        subst hkn
        go_wp2
        go_ret
        refine OccD.no hos hbk1.out hcl.out ?_
        have := hcov.out
        rwa [List.take_of_length_le (Nat.le_refl _)] at this
end Go.Proofs.Ytcjgcopkeeiicaa
/-! Contracts: does a variable occur in a term, the reference's way. -/

namespace Go.Proofs.Ytcjgcopkeeiicaa
open Go.RowKit
set_option linter.unusedVariables false
set_option linter.unusedSimpArgs false

theorem list_last {α : Type} (L : List α) : L = [] ∨ ∃ L0 u, L = L0 ++ [u] := by
  rcases List.eq_nil_or_concat L with h | ⟨L0, u, h⟩
  · exact .inl h
  · exact .inr ⟨L0, u, by rw [h, List.concat_eq_append]⟩
theorem own_cut {w : World} {lo e : Nat} {A : Option Addr} {n c : Nat} {vs : List Value} {v : Value} (h : w.ownsRow lo e 1 (.slice A (n + 1) c) (n + 1) (vs ++ [v])) (hl : vs.length = n) : w.ownsRow lo e 1 (.slice A n c) n vs := by
  refine ⟨by omega, ?_⟩
  rcases h.2 with ⟨hv, h0⟩ | ⟨g, cap, cur, hv, hB, hg, h1, h2, h3, h4⟩
  · omega
  · simp only [Value.slice.injEq] at hv
    obtain ⟨rfl, _, rfl⟩ := hv
    refine .inr ⟨g, c, cur, rfl, hB, hg, by omega, h2, h3, ?_⟩
    have := congrArg (List.take n) h4
    rw [List.take_take, List.take_append_of_le_length (by omega), List.take_of_length_le (Nat.le_of_eq hl)] at this
    rw [← this]
    congr 1
    omega
theorem own_blk {w : World} {lo e g n : Nat} {vs : List Value} (h : w.ownsRow lo e 1 (.slice (some ⟨g, 0, none⟩) n n) n vs) : Blk w g e vs.toArray := by
  rcases h.2 with ⟨hv, _⟩ | ⟨g', cap, cur, hv, hB, hg, h1, h2, h3, h4⟩
  · cases hv
  · simp only [Value.slice.injEq, Option.some.injEq, Addr.mk.injEq] at hv
    obtain ⟨⟨rfl, _⟩, _, rfl⟩ := hv
    have : vs.toArray = cur := by
      rw [← h4, List.take_of_length_le (by simp; omega)]
    unfold Blk
    rw [this]
    exact hg
theorem Stk.pop {w0 w : World} {G lo : Nat} {A : Option Addr} {c : Nat} {L : List (List Int)} {u : List Int} (h : Stk w0 w G lo A c (L ++ [u])) :
    ∃ g v, A = some ⟨g, 0, none⟩ ∧ w.cell? ⟨g, L.length, none⟩ = some v ∧ SV w0 G v u ∧ Stk w0 w G lo A c L ∧ L.length + 1 ≤ c ∧ c ≤ maxLen := by
  obtain ⟨vs, h1, h2, h3⟩ := h
  rw [List.length_append, List.length_singleton] at h1 h2 h3
  obtain ⟨ws, v, rfl⟩ : ∃ ws v, vs = ws ++ [v] := by
    rcases List.eq_nil_or_concat vs with rfl | ⟨ws, v, rfl⟩
    · simp at h1
    · exact ⟨ws, v, by simp⟩
  have hl : ws.length = L.length := by simpa using h1
  obtain ⟨A', c', hA, hn, hc⟩ := own_form h2
  have h2' := h2
  rcases h2.2 with ⟨hv, h0⟩ | ⟨g, cap, cur, hv, _⟩
  · omega
  · simp only [Value.slice.injEq] at hv
    obtain ⟨rfl, _, rfl⟩ := hv
    have hcell := h2'.cellAt L.length (by omega)
    refine ⟨g, v, rfl, ?_, ?_, ⟨ws, hl, own_cut h2' hl, fun i hi => ?_⟩, by simp only [Value.slice.injEq] at hA; omega, by simp only [Value.slice.injEq] at hA; omega⟩
    · rw [hcell, List.getElem?_append_right (by omega), hl]; simp
    · have := h3 L.length (by omega)
      rw [getD_snoc _ _ _ _ (by omega), getD_snoc _ _ _ _ (by omega), if_neg (by omega), if_neg (by omega)] at this
      exact this
    · have := h3 i (by omega)
      rw [getD_snoc _ _ _ _ (by omega), getD_snoc _ _ _ _ (by omega), if_pos (by omega), if_pos hi] at this
      exact this
theorem Stk.form {w0 w : World} {G lo : Nat} {A : Option Addr} {c : Nat} {L : List (List Int)} (h : Stk w0 w G lo A c L) : L.length ≤ c ∧ c ≤ maxLen := by
  obtain ⟨vs, h1, h2, h3⟩ := h
  obtain ⟨A', c', hA, hn, hc⟩ := own_form h2
  simp only [Value.slice.injEq] at hA
  omega
theorem info_bool : (Try.prog.info? 4).map (fun i => (i.zero, i.size, i.bytes)) = some (some (.bool false), 1, 1) := by kernel_rfl
theorem seen_rep : (madeCells (Value.bool false).cells (48 * 1)).toList = seenL fun _ => false := by
  rw [show (Value.bool false).cells = #[.bool false] by rfl, toList_madeCells_one]
  rfl
/-- What the search's memory looks like between two rounds. -/
def OcM (w0 w : World) (G lo : Nat) (t : List Int) (S : Nat → Bool) (A : Option Addr) (c : Nat) (L : List (List Int)) (σ : Int → List Int) (x : Int) (wr : World) : Prop :=
  Stk w0 wr G (lo + 1) A c L ∧ Blk wr lo 4 (seenL S).toArray ∧ (∀ u ∈ L, u ≠ [] ∧ Un.In 48 u ∧ (x ∈ Un.ap σ u → x ∈ Un.ap σ t)) ∧ Below w.heap.size w wr ∧ lo < wr.heap.size
theorem OcM.drewN {w0 w wr : World} {G lo : Nat} {t : List Int} {S : Nat → Bool} {A : Option Addr} {c : Nat} {L : List (List Int)} {σ : Int → List Int} {x : Int} (h : OcM w0 w G lo t S A c L σ x wr) (n : Nat) : OcM w0 w G lo t S A c L σ x (wr.drewN n) :=
  ⟨h.1, h.2.1, h.2.2.1, below_drewN h.2.2.2.1 n, h.2.2.2.2⟩
theorem keepAl {lo : Nat} {W w : World} {p q r : Addr} {x y z : Value} (hl : lo ≤ W.heap.size) (h : Below lo W w ∧ w.cell? p = some x ∧ w.cell? q = some y ∧ w.cell? r = some z) (o : Obj) : Below lo W (w.alloc o) ∧ (w.alloc o).cell? p = some x ∧ (w.alloc o).cell? q = some y ∧ (w.alloc o).cell? r = some z :=
  ⟨h.1.alloc (Nat.le_trans hl h.1.size) o, keepC ((Below.refl _ _).alloc (Nat.le_refl _) o) h.2.1, keepC ((Below.refl _ _).alloc (Nat.le_refl _) o) h.2.2.1, keepC ((Below.refl _ _).alloc (Nat.le_refl _) o) h.2.2.2⟩
theorem keepGb {lo : Nat} {W w w' : World} {p q r : Addr} {x y z : Value} (hb : Below lo w w') (hp : p.block < lo ∧ q.block < lo ∧ r.block < lo) (h : Below lo W w ∧ w.cell? p = some x ∧ w.cell? q = some y ∧ w.cell? r = some z) : Below lo W w' ∧ w'.cell? p = some x ∧ w'.cell? q = some y ∧ w'.cell? r = some z :=
  ⟨h.1.trans hb, (hb.cell hp.1).trans h.2.1, (hb.cell hp.2.1).trans h.2.2.1, (hb.cell hp.2.2).trans h.2.2.2⟩
theorem Stk.setBelow {w0 w : World} {G lo : Nat} {A : Option Addr} {c : Nat} {L : List (List Int)} (h : Stk w0 w G lo A c L) {p : Addr} (hp : p.block < lo) (u : Value) : Stk w0 (w.setCell p u) G lo A c L := by
  obtain ⟨vs, h1, h2, h3⟩ := h
  exact ⟨vs, h1, ownsRow_setCell_below h2 hp u, h3⟩
set_option maxHeartbeats 4000000 in
set_option maxRecDepth 20000 in
theorem l11Occurs_any (f : Int → Int) (p G : Nat) (w0 : World) (B : Un.Bd) (σ : Int → List Int) (rk : Int → Nat) (gd : Un.Good f 48 B σ rk) (x : Int) (hx : x < 0) (hbx : B (Un.ix x) = []) (t : List Int) (v : Value) (w : World)
    (hp : w.cell? ⟨p, 0, none⟩ = some (.slice (some ⟨G, 0, none⟩) 48 48)) (hb : Bnd w0 w G 22 [] B) (ho : Only G (G + 1) w0 w) (hv : SV w0 G v t) (hne : t ≠ []) (hin : Un.In 48 t) :
    Calls Try.prog 72 #[.pointer (some ⟨p, 0, none⟩), .int .i64 x, v] w fun e w' => e = .returned (.bool (decide (x ∈ Un.ap σ t))) ∧ Below w.heap.size w w' := by
  obtain ⟨i0, hi, hz0, hz1, hz2⟩ := info_parts info_bool
  obtain ⟨i1, hj, iy0, iy1, iy2⟩ := info_parts infoSliceW
  have GD := Lib.hid gd
  have HBX := Lib.hid hbx
  have HV := Lib.hid hv
  obtain ⟨gv, ov, cv, rfl, _⟩ := hv.some_ hne
  obtain ⟨r, hr⟩ : ∃ r, decide (x ∈ Un.ap σ t) = r := ⟨_, rfl⟩
  have HR := Lib.hid hr
  rw [hr]
  clear gd hbx hv hr
  have hplt := World.block_lt_of_cell? w _ hp
  have hGlt := hb.lt
  go_enter Try.func72, Try.ntmps72
  go_wp2_with (at_make; refine wpList_make_full _ rfl _ _ 111 rfl w.heap.size 4 i0 (.bool false) 1 Try.underlying111 hi hz0 hz1 .i64 .i64 _ _ 48 rfl rfl rfl rfl (by rw [hz2]; omega) (by unfold maxLen; omega) (by omega) ?_; intro w1 hown hg)
  rw [seen_rep] at hown
  have hS1 : w.heap.size < w1.heap.size := (World.ownsRow.lt hown w.heap.size rfl).2
  have hB1 : Below w.heap.size w w1 := (Below.refl _ _).grown hg (Nat.le_refl _) (by simp)
  have hBk := own_blk hown
  have hM : Hid (OcM w0 w G w.heap.size t (fun _ => false) (some ⟨w1.heap.size, 0, none⟩) 1 [t] σ x (w1.alloc (.cells #[.slice (some ⟨gv, ov, none⟩) t.length cv] 22))) := by
    refine ⟨⟨[.slice (some ⟨gv, ov, none⟩) t.length cv], rfl, World.ownsRow_lit (e := 22) (size := 1) w1 #[.slice (some ⟨gv, ov, none⟩) t.length cv] 1 (by omega) (by simp [maxLen]) rfl, fun i hi => ?_⟩, hBk.alloc _, fun u hu => ?_, hB1.alloc (by omega) _, by simp; omega⟩
    · obtain rfl : i = 0 := by simpa using hi
      exact HV.out
    · obtain rfl := List.mem_singleton.1 hu
      exact ⟨hne, hin, id⟩
  have hP0 := Lib.hid (Un.Pend.start B x t)
  clear hown hg hBk hB1 hi hz0 hz1 hz2
  generalize w1.alloc (.cells #[.slice (some ⟨gv, ov, none⟩) t.length cv] 22) = W2 at *
  go_loopg [8] (2 * Un.un (fun _ => false) + 1) (fun g s wr => ∃ (L : List (List Int)) (S : Nat → Bool) (A : Option Addr) (c m : Nat), s = .slice A m c ∧ Hid (m = L.length) ∧ Hid (OcM w0 w G w.heap.size t S A c L σ x wr) ∧ Hid (Un.Pend B x t (fun u => u ∈ L) S) ∧ Hid (g = 2 * Un.un S + L.length ∧ g ≤ 97))
  case atStart => exact ⟨[t], _, _, 1, 1, rfl, rfl, hM, hP0, Lib.hid ⟨rfl, by have := Un.un_bd (fun _ => false); omega⟩⟩
  case round =>
    obtain ⟨L, S, A, c, m, rfl, hm, hM, hP, hgk⟩ := hrel
    rcases list_last L with rfl | ⟨L0, u, rfl⟩
    · have hm0 : m = 0 := hm.out
      subst hm0
      have hno := Un.pend_no GD.out hx (hP.out.imp (fun u hu => by cases hu))
      have hfin : Hid (r = false) := Lib.hid (by rw [← HR.out]; exact decide_eq_false hno)
      have hbw := hM.out.2.2.2.1
      go_wp2
      go_ret
      exact ⟨ret_bool hfin.out.symm, hbw⟩
    · have hm1 : m = L0.length + 1 := by rw [hm.out]; simp
      subst hm1
      obtain ⟨gs, vs, rfl, hc, hsv, hstk, hlc, hcm⟩ := hM.out.1.pop
      obtain ⟨hune, huin, huap⟩ := hM.out.2.2.1 u (by simp)
      obtain ⟨gu, ou, cu, rfl, hri, hgu, l1, l2, l3, l4⟩ := hsv.some_ hune
      have hG0 : Hid (OcM w0 w G w.heap.size t S (some ⟨gs, 0, none⟩) c L0 σ x wr) := ⟨hstk, hM.out.2.1, fun z hz => hM.out.2.2.1 z (by simp [hz]), hM.out.2.2.2⟩
      have hP0 := Lib.hid (hP.out.imp (P' := fun z => z ∈ L0 ∨ z = u) (fun z hz => .inl (by simpa using hz)))
      have hgk2 : Hid (gk = 2 * Un.un S + L0.length + 1 ∧ gk ≤ 97) := Lib.hid ⟨by have h1 := hgk.out.1; rw [List.length_append, List.length_singleton] at h1; omega, hgk.out.2⟩
      have hG0' := hG0.out.2.2.2.1
      have hcl := Lib.hid hM.out.2.1
      obtain ⟨go, hgo⟩ : ∃ go : Nat, go = gk := ⟨_, rfl⟩
      subst hgo
      obtain ⟨wo, hwo⟩ : ∃ wo : World, wo = wr := ⟨_, rfl⟩
      subst hwo
      unfold maxLen at hcm
      have e2 : (0 : Int) ≤ (L0.length : Int) := by omega
      have e3 : (L0.length : Int) ≤ (c : Int) := by omega
      have e4 : (L0.length : Int) < ((L0.length + 1 : Nat) : Int) := by omega
      clear hm hM hP hgk hsv hstk
      go_wp2
      go_loopg [8, 10] u.length (fun g2 s i wr => ∃ (L' : List (List Int)) (S' : Nat → Bool) (A' : Option Addr) (c' m' k : Nat), s = .slice A' m' c' ∧ i = .int .i64 k ∧ k ≤ u.length ∧ Hid (m' = L'.length) ∧ Hid (OcM w0 w G w.heap.size t S' A' c' L' σ x wr) ∧ Hid (Un.Pend B x t (fun z => z ∈ L' ∨ z = u) S') ∧ Hid (Un.Cov2 B x S' (u.take k)) ∧ Hid (2 * Un.un S' + L'.length ≤ 2 * Un.un S + L0.length) ∧ Hid (g2 = u.length - k))
      case atStart => exact ⟨L0, S, _, c, L0.length, 0, rfl, rfl, Nat.zero_le _, rfl, hG0, hP0, Lib.hid (by rw [List.take_zero]; exact Un.Cov2.nil _ _ _), Nat.le_refl _, rfl⟩
      case round =>
        obtain ⟨L', S', A', c', m', k, rfl, rfl, hk, hm', hM', hP', hC', hun', hg2⟩ := hrel
        have hbr := hM'.out.2.2.2.1
        have hor := ho.trans (Only.of hbr)
        by_cases hlt : k < u.length
        · obtain ⟨g', off', y, hA, hc, hy⟩ := (ri_only hri (fun _ a ha => by injection ha with ha; subst ha; exact hgu) hor).at_ hlt
          injection hA with hA
          injection hA with hA1 hA2
          subst hA1 hA2
          have HTK := Lib.hid (take_snocI hlt hy.out)
          have hmem : y ∈ u := by rw [hy.out]; exact Pl.getD_mem hlt
          have hbd := hb.below hbr
          have hpr := keepC hbr hp
          have hk0 : (0 : Int) ≤ (k : Int) := by omega
          have hk1 : (k : Int) < (u.length : Int) := by omega
          cases hyx : (y == x)
          · have hyne : y ≠ x := by simpa using hyx
            cases hy0 : decide (y < 0)
            · have hC2 := Lib.hid (hC'.out.snoc (y := y) hyne (fun h0 => absurd (show ¬ y < 0 by simpa using hy0) (by omega)))
              rw [← HTK.out] at hC2
              clear hmem hy
              go_wp2
              go_quiet (fail)
              go_wp2
              go_roundg (u.length - (k + 1))
              case rel => exact ⟨L', S', A', c', m', k + 1, rfl, by go_num, by omega, hm', hM'.out.drewN _, hP', hC2, hun', rfl⟩
              case measure => have := hg2.out; omega
            · have hneg : y < 0 := by simpa using hy0
              have hix : Un.ix y < 48 := huin y hmem hneg
              have e1 : IntKind.i64.wrap (-1 - y) = (Un.ix y : Int) := by have := Un.ix_neg hneg; rw [this]; exact IntWalk.i64_in _ (by omega)
              have hsc : wr.cell? ⟨w.heap.size, Un.ix y, none⟩ = some (.bool (S' (Un.ix y))) := by rw [hM'.out.2.1.cell, seenL_at _ hix]
              cases hsee : S' (Un.ix y)
              · obtain ⟨vb, hcb, hsb⟩ := hbd.cell hix
                simp only [List.length_nil, Nat.zero_add] at hcb
                rw [hsee] at hsc
                have HIX : Hid (S' (Un.ix y) = false) := Lib.hid hsee
                by_cases hbe : B (Un.ix y) = []
                · have hC2 := Lib.hid (hC'.out.snoc (y := y) hyne (fun _ hb' => absurd hbe hb'))
                  rw [← HTK.out] at hC2
                  rw [hbe] at hsb
                  obtain ⟨cb, rfl⟩ := hsb.none_
                  clear hmem hy hbe hsee
                  generalize Un.ix y = j at *
                  have hj0 : (0 : Int) ≤ (j : Int) := by omega
                  have hj1 : (j : Int) < 48 := by omega
                  go_wp2
                  go_quiet (fail)
                  go_wp2
                  go_roundg (u.length - (k + 1))
                  case rel => exact ⟨L', S', A', c', m', k + 1, rfl, by go_num, by omega, hm', hM'.out.drewN _, hP', hC2, hun', rfl⟩
                  case measure => have := hg2.out; omega
                · obtain ⟨g2, o2, c2, rfl, hri2, hg2', q1, q2, q3, q4⟩ := hsb.some_ hbe
                  have HBE := Lib.hid hbe
                  have HSB := Lib.hid hsb
                  have hone := Lib.hid (sv_one hsb)
                  have hdeep := Lib.hid (fun ho' => Un.occ_deep (x := x) (t := u) GD.out hneg hbe hmem ho')
                  have hwtb := Lib.hid (GD.out.wt hbe)
                  have hunm := Un.un_mark hix hsee
                  have hfz := hM'.out.2.1.frozen (Un.ix y)
                  have HP2 := Lib.hid (hP'.out.push (i := Un.ix y) (P' := fun z => z ∈ L' ++ [B (Un.ix y)] ∨ z = u) (fun z hz => by rcases hz with hz | hz <;> simp [hz]) (by simp))
                  have hC2 := Lib.hid ((hC'.out.mono (S' := Un.mark S' (Un.ix y)) (fun _ => Un.mark_sub)).snoc (y := y) hyne (fun _ _ => Un.mark_same _ _))
                  rw [← HTK.out] at hC2
                  have hguw : gu < w.heap.size := by
                    obtain ⟨g', off', e, hc'⟩ := hri.2 (by omega)
                    injection e with e
                    injection e with ea eb
                    subst ea eb
                    exact Nat.lt_of_lt_of_le (World.block_lt_of_cell? w0 _ (hc' k hlt)) ho.size
                  clear hmem hy hbe hsee hsb
                  generalize Un.ix y = j at *
                  have hj0 : (0 : Int) ≤ (j : Int) := by omega
                  have hj1 : (j : Int) < 48 := by omega
                  go_wp2
                  go_quiet (fail)
                  go_wp2
                  have hwb : (wr.drewN nq).heap.size = wr.heap.size := rfl
                  have hsr := hM'.out.2.2.2.2
                  have hpr3 : ((wr.drewN nq).setCell ⟨w.heap.size, j, none⟩ (.bool true)).cell? ⟨p, 0, none⟩ = some (.slice (some ⟨G, 0, none⟩) 48 48) := (World.cell?_setCell_other _ _ _ _ (by simp <;> omega)).trans hpr
                  have hcb3 : ((wr.drewN nq).setCell ⟨w.heap.size, j, none⟩ (.bool true)).cell? ⟨G, j, none⟩ = some (.slice (some ⟨g2, o2, none⟩) (B j).length c2) := (World.cell?_setCell_other _ _ _ _ (by simp <;> omega)).trans hcb
                  have hcu3 : ((wr.drewN nq).setCell ⟨w.heap.size, j, none⟩ (.bool true)).cell? ⟨gu, ou + k, none⟩ = some (.int .i64 y) := (World.cell?_setCell_other _ _ _ _ (by simp <;> omega)).trans hc
                  have hM3 : Hid (OcM w0 w G w.heap.size t (Un.mark S' j) A' c' L' σ x ((wr.drewN nq).setCell ⟨w.heap.size, j, none⟩ (.bool true))) := by
                    obtain ⟨a1, a2, a3, a4, a5⟩ := hM'.out.drewN nq
                    refine ⟨a1.setBelow (by simp) _, ?_, a3, a4.setCell (Nat.le_refl _) _, by simpa [World.setCell] using a5⟩
                    have := a2.set_ j (.bool true)
                    rwa [seenL_set] at this
                  clear hbd hpr hcb hc hsc hfz hM' hor hbr
                  generalize (wr.drewN nq).setCell ⟨w.heap.size, j, none⟩ (.bool true) = W3 at *
                  obtain ⟨vs, hvl, hown, hvsv⟩ := hM3.out.1
                  have hsz3 : w.heap.size + 1 ≤ W3.heap.size := hM3.out.2.2.2.2
                  obtain rfl : m' = L'.length := hm'.out
                  clear hm'
                  have hform := hM3.out.1.form
                  unfold maxLen at hform
                  have hL48 : L'.length ≤ 200 := by have := hun'.out; have := hgk2.out; omega
                  go_region_held3 (fun w' => Below (w.heap.size + 1) W3 w' ∧ w'.cell? ⟨p, 0, none⟩ = some (.slice (some ⟨G, 0, none⟩) 48 48) ∧ w'.cell? ⟨G, j, none⟩ = some (.slice (some ⟨g2, o2, none⟩) (B j).length c2) ∧ w'.cell? ⟨gu, ou + k, none⟩ = some (.int .i64 y))
                    (first | exact ⟨(Below.refl _ _).drew, hpr3, hcb3, hcu3⟩ | exact keepAl hsz3 (by assumption) _ | exact keepGb hgb (by simp; omega) (by assumption))
                    ((first | (refine step_append_any rfl _ _ 85 rfl (w.heap.size + 1) 22 i1 (.slice none 0 0) 1 24 Try.underlying85 hj iy0 iy1 iy2 rfl (by omega) A' L'.length c' vs rfl (ownsRow_below hown ((Below.refl _ W3).alloc (Nat.le_refl _) (.cells #[.slice (some ⟨g2, o2, none⟩) (B j).length c2] 22)).drew) _ 1 _ [.slice (some ⟨g2, o2, none⟩) (B j).length c2] rfl (Src.new W3 [.slice (some ⟨g2, o2, none⟩) (B j).length c2] _ 1 1 rfl (fun u hu => by obtain rfl := List.mem_singleton.1 hu; exact hone.out)) (by unfold maxLen; omega) (by omega) (by simp; omega) ?_; intro A5 c5 w5 ho5 hg5 hnil5 hwh5; have hgb := grown_below hg5 (ownsRow_below hown ((Below.refl _ W3).alloc (Nat.le_refl _) (.cells #[.slice (some ⟨g2, o2, none⟩) (B j).length c2] 22)).drew) (by simp; omega))))
                  rename_i hS
                  have hM5 : Hid (OcM w0 w G w.heap.size t (Un.mark S' j) A5 c5 (L' ++ [B j]) σ x w5) := by
                    obtain ⟨a1, a2, a3, a4, a5⟩ := hM3.out
                    refine ⟨Stk.mk_ (by simp) hvl rfl ho5 hvsv (fun i hi => ?_), (hS.1.block _ (by omega)).trans a2, fun z hz => ?_, a4.trans (hS.1.mono (by omega)), by have := hS.1.size; omega⟩
                    · obtain rfl : i = 0 := by simpa using hi
                      exact HSB.out
                    · rcases List.mem_append.1 hz with hz | hz
                      · exact a3 z hz
                      · obtain rfl := List.mem_singleton.1 hz
                        exact ⟨HBE.out, hwtb.out.2, fun hq => huap (hdeep.out hq)⟩
                  have hunL : Hid (2 * Un.un (Un.mark S' j) + (L' ++ [B j]).length ≤ 2 * Un.un S + L0.length) := Lib.hid (by have := hun'.out; rw [List.length_append, List.length_singleton]; omega)
                  clear hS hgb hg5 ho5 hM3 hown hvsv hvl
                  go_wp2_with fail
                  go_roundg (u.length - (k + 1))
                  case rel => exact ⟨L' ++ [B j], Un.mark S' j, A5, c5, L'.length + 1, k + 1, rfl, by go_num, by omega, Lib.hid (by simp), hM5, HP2, hC2, hunL, rfl⟩
                  case measure => have := hg2.out; omega
              · have hC2 := Lib.hid (hC'.out.snoc (y := y) hyne (fun _ _ => hsee))
                rw [← HTK.out] at hC2
                rw [hsee] at hsc
                clear hmem hy hsee
                generalize Un.ix y = j at *
                have hj0 : (0 : Int) ≤ (j : Int) := by omega
                have hj1 : (j : Int) < 48 := by omega
                go_wp2
                go_quiet (fail)
                go_wp2
                go_roundg (u.length - (k + 1))
                case rel => exact ⟨L', S', A', c', m', k + 1, rfl, by go_num, by omega, hm', hM'.out.drewN _, hP', hC2, hun', rfl⟩
                case measure => have := hg2.out; omega
          · have hfin : Hid (r = true) := Lib.hid (by rw [← HR.out]; exact decide_eq_true (huap (Un.occ_mem GD.out hx HBX.out (by have e : y = x := (by simpa using hyx); rw [← e]; exact hmem))))
            clear hmem hy
            go_wp2
            go_ret
            exact ⟨ret_bool hfin.out.symm, hbr⟩
        · have hke : k = u.length := by omega
          subst hke
          have hC2 := hC'.out
          rw [List.take_of_length_le (Nat.le_refl _)] at hC2
          have hP2 := Lib.hid (hP'.out.imp (P' := fun z => z ∈ L') (fun z hz => by
            rcases hz with hz | rfl
            · exact .inl hz
            · exact .inr hC2))
          clear hC2
          go_wp2
          go_roundg (2 * Un.un S' + L'.length)
          case rel => exact ⟨L', S', A', c', m', rfl, hm', hM', hP2, Lib.hid ⟨rfl, by have := hgk2.out; have := hun'.out; omega⟩⟩
          case measure => have := hgk2.out; have := hun'.out; omega
end Go.Proofs.Ytcjgcopkeeiicaa
