/- Contracts: the reference's unification. -/
import Derived.Test.YtcjgcopkeeiicaaOccS
import Derived.Test.YtcjgcopkeeiicaaUnr
import Derived.Test.YtcjgcopkeeiicaaSolve
import Derived.Test.YtcjgcopkeeiicaaOvl
namespace Go.Proofs.Ytcjgcopkeeiicaa
open Go.RowKit
set_option linter.unusedVariables false
set_option linter.unusedSimpArgs false

theorem Stk.same {w0 w w' : World} {G lo : Nat} {A : Option Addr} {c : Nat} {L : List (List Int)} (h : Stk w0 w G lo A c L) (hs : ∀ b, blk A = some b → w'.heap[b]? = w.heap[b]?) : Stk w0 w' G lo A c L := by
  obtain ⟨vs, h1, h2, h3⟩ := h
  exact ⟨vs, h1, own_same h2 (by rw [blk_own]; exact hs), h3⟩
theorem Stk.lt {w0 w : World} {G lo : Nat} {A : Option Addr} {c : Nat} {L : List (List Int)} (h : Stk w0 w G lo A c L) {b : Nat} (hb : blk A = some b) : lo ≤ b ∧ b < w.heap.size := by
  obtain ⟨vs, h1, h2, h3⟩ := h
  exact World.ownsRow.lt h2 b (by rw [blk_own]; exact hb)
theorem Stk.src {w0 w : World} {G lo : Nat} {A : Option Addr} {c : Nat} {L : List (List Int)} (h : Stk w0 w G lo A c L) : ∃ vs : List Value, vs.length = L.length ∧ Src w A L.length 1 vs ∧ ∀ i, i < L.length → SV w0 G (vs.getD i .nilFunc) (L.getD i []) := by
  obtain ⟨vs, h1, h2, h3⟩ := h
  refine ⟨vs, h1, ⟨by omega, fun u hu => ?_, ?_⟩, h3⟩
  · obtain ⟨i, hi, rfl⟩ := List.getElem_of_mem hu
    have := h3 i (by omega)
    rw [List.getD_eq_getElem?_getD, List.getElem?_eq_getElem hi, Option.getD_some] at this
    exact sv_one this
  · by_cases h0 : L.length = 0
    · exact .inl h0
    · rcases h2.2 with ⟨_, hn⟩ | ⟨g, cap, cur, hv, _⟩
      · omega
      · simp only [Value.slice.injEq] at hv
        obtain ⟨rfl, _, rfl⟩ := hv
        refine .inr ⟨_, rfl, fun j u hu => ?_⟩
        have e1 : (⟨g, 0, none⟩ : Addr).add j = ⟨g, j, none⟩ := by unfold Addr.add; split <;> simp_all
        have hj : j < vs.length := (List.getElem?_eq_some_iff.1 hu).1
        rw [e1, h2.cellAt j (by omega), hu]
/-- The memory of the reference's unification. -/
structure MeM (w0 w : World) (G : Nat) (bx : Value) (wr : World) (B : Un.Bd) (L R : List (List Int)) (A1 : Option Addr) (c1 : Nat) (A2 : Option Addr) (c2 : Nat) : Prop where
  l : Stk w0 wr G (w.heap.size + 1) A1 c1 L
  r : Stk w0 wr G (w.heap.size + 1) A2 c2 R
  ap : ∀ b, blk A1 = some b → blk A2 ≠ some b
  bd : Bnd w0 wr G 22 [] B
  on : Only G (G + 1) w wr
  sz : w.heap.size < wr.heap.size
  bx : wr.cell? ⟨w.heap.size, 0, none⟩ = some bx
section
variable {w0 w wr w' : World} {G : Nat} {bx : Value} {B : Un.Bd} {L R : List (List Int)} {A1 : Option Addr} {c1 : Nat} {A2 : Option Addr} {c2 : Nat}
theorem MeM.below (h : MeM w0 w G bx wr B L R A1 c1 A2 c2) (hb : Below wr.heap.size wr w') : MeM w0 w G bx w' B L R A1 c1 A2 c2 :=
  ⟨h.l.below hb, h.r.below hb, h.ap, h.bd.below hb, h.on.trans (Only.of hb), Nat.lt_of_lt_of_le h.sz hb.size, keepC hb h.bx⟩
theorem MeM.drew (h : MeM w0 w G bx wr B L R A1 c1 A2 c2) : MeM w0 w G bx wr.drew B L R A1 c1 A2 c2 := h.below (Below.refl _ _).drew
theorem MeM.drewN (h : MeM w0 w G bx wr B L R A1 c1 A2 c2) (n : Nat) : MeM w0 w G bx (wr.drewN n) B L R A1 c1 A2 c2 := h.below (below_drewN (Below.refl _ _) n)
theorem MeM.set_ (h : MeM w0 w G bx wr B L R A1 c1 A2 c2) (hG : G < w.heap.size) {i : Nat} (hi : i < 48) {v : Value} {t : List Int} (hv : SV w0 G v t) : MeM w0 w G bx (wr.setCell ⟨G, i, none⟩ v) (Un.put B i t) L R A1 c1 A2 c2 := by
  have hb := h.bd.set_ hi hv
  simp only [List.length_nil, Nat.zero_add] at hb
  exact ⟨h.l.setBelow (by dsimp only; omega) v, h.r.setBelow (by dsimp only; omega) v, h.ap, hb, only_set h.on i v, by have := h.sz; simpa [World.setCell] using this, (World.cell?_setCell_other _ _ _ _ (by simp <;> omega)).trans h.bx⟩
end
theorem MeM.swap {w0 w wr : World} {G : Nat} {bx : Value} {B : Un.Bd} {L R : List (List Int)} {A1 : Option Addr} {c1 : Nat} {A2 : Option Addr} {c2 : Nat} (h : MeM w0 w G bx wr B L R A1 c1 A2 c2) : MeM w0 w G bx wr B R L A2 c2 A1 c1 :=
  ⟨h.r, h.l, fun b hb hb' => h.ap b hb' hb, h.bd, h.on, h.sz, h.bx⟩
theorem MeM.growL {w0 w w3 w5 : World} {G : Nat} {bx : Value} {B : Un.Bd} {L R M : List (List Int)} {A1 : Option Addr} {c1 : Nat} {A2 : Option Addr} {c2 : Nat} {A5 : Option Addr} {c5 n k : Nat} {vs ws : List Value} (h : MeM w0 w G bx w3 B L R A1 c1 A2 c2) (hG : G < w.heap.size)
    (hn : n = L.length) (hk : k = L.length + M.length) (hvl : vs.length = L.length) (hwl : ws.length = M.length) (hown : w3.ownsRow (w.heap.size + 1) 22 1 (.slice A1 n c1) n vs) (ho5 : w5.ownsRow (w.heap.size + 1) 22 1 (.slice A5 k c5) k (vs ++ ws))
    (hsv : ∀ i, i < L.length → SV w0 G (vs.getD i .nilFunc) (L.getD i [])) (hsw : ∀ i, i < M.length → SV w0 G (ws.getD i .nilFunc) (M.getD i [])) (hg : w3.grownBy w5 (Value.slice A1 n c1).ownBlock) (hwh : A5 = A1 ∨ A5 = some ⟨w3.heap.size, 0, none⟩) : MeM w0 w G bx w5 B (L ++ M) R A5 c5 A2 c2 := by
  have hb5 : Below (w.heap.size + 1) w3 w5 := grown_below hg hown h.sz
  refine ⟨Stk.mk_ hk hvl hwl ho5 hsv hsw, h.r.same fun b hb => hg.block b (h.r.lt hb).2 (fun e => ?_), fun b hb hb' => ?_, ?_, ⟨hb5.os.trans h.on.os, hb5.tape.trans h.on.tape, hb5.output.trans h.on.output, Nat.le_trans h.on.size hb5.size, fun i hi hd => (hb5.block i (by omega)).trans (h.on.block i hi hd)⟩, Nat.lt_of_lt_of_le h.sz hb5.size, (hb5.cell (by simp)).trans h.bx⟩
  · rw [blk_own] at e
    exact h.ap b e.symm hb
  · rcases hwh with rfl | rfl
    · exact h.ap b hb hb'
    · have := (h.r.lt hb').2
      simp [blk] at hb
      omega
  · obtain ⟨us, u1, u2, u3⟩ := h.bd
    exact ⟨us, u1, (hb5.block G (by omega)).trans u2, u3⟩
/-- How the reference's unification ends. -/
def MeD (T : TypeId) (w0 w : World) (G : Nat) (f : Int → Int) (s t : List Int) (e : Ending) (w' : World) : Prop :=
  Only G (G + 1) w w' ∧ ((∃ B', e = .returned (.bool true) ∧ Bnd w0 w' G T [] B' ∧ Un.Done f B' s t) ∨ (e = .returned (.bool false) ∧ ¬ Un.Meets f s t))
theorem bnd_short {w0 w : World} {G : Nat} {T : TypeId} {hd : List Value} {B : Un.Bd} {f : Int → Int} {σ : Int → List Int} {rk : Int → Nat} (h : Bnd w0 w G T hd B) (g : Un.Good f 48 B σ rk) (i : Nat) : (B i).length ≤ 60 := by
  by_cases hi : i < 48
  · obtain ⟨v, _, A, n, c, _, hr, _, _, _, h5, _⟩ := h.cell hi
    rw [hr.1]; exact h5
  · rw [g.out i (by omega)]; simp
set_option maxHeartbeats 4000000 in
set_option maxRecDepth 20000 in
theorem l11Meet_any (f : Int → Int) (p G : Nat) (w0 : World) (A : Option Addr) (n c : Nat) (xs : List Int) (hf : f = Pl.nxt xs) (hsg : SG w0 G A n xs) (hs : Pl.sigOk xs = true) (hG : G < w0.heap.size) (hpG : p ≠ G)
    (s t : List Int) (v v' : Value) (w : World) (hp : w.cell? ⟨p, 0, none⟩ = some (.slice (some ⟨G, 0, none⟩) 48 48)) (hb : Bnd w0 w G 22 [] (fun _ => [])) (ho : Only G (G + 1) w0 w)
    (hv : SV w0 G v s) (hv' : SV w0 G v' t) (h1 : Un.WT f s) (h2 : Un.WT f t) :
    Calls Try.prog 61 #[.agg #[.slice A n c], .pointer (some ⟨p, 0, none⟩), v, v'] w (MeD 22 w0 w G f s t) := by
  obtain ⟨i0, hi, iz0, iz1, iz2⟩ := info_parts infoSliceW
  have hfa : Un.Ar f := by rw [hf]; exact nxt_ar xs
  have HF := Lib.hid hf
  have HFA := Lib.hid hfa
  have HS := Lib.hid hs
  have HV := Lib.hid hv
  have HV' := Lib.hid hv'
  have HE := Lib.hid (Un.Eqs.start (f := f) s t)
  have HG := Lib.hid (Un.good_zero hfa 48)
  obtain ⟨gs, os, cs, rfl, _, _, _, _, ls, _⟩ := hv.some_ h1.ne
  obtain ⟨gt, ot, ct, rfl, _, _, _, _, lt, _⟩ := hv'.some_ h2.ne
  have hplt := World.block_lt_of_cell? w _ hp
  have hGlt := hb.lt
  have HW1 := Lib.hid h1
  have HW2 := Lib.hid h2
  obtain ⟨k0, hk0⟩ := Un.fu_ex hfa _ _ _ [s] [t] _ _ HG.out rfl (by simpa using h1) (by simpa using h2) rfl rfl
  have HK := Lib.hid hk0
  have HLW := Lib.hid (Un.Low.start (fun _ => []) ls)
  clear hf hfa hs hv hv' h1 h2 hk0
  go_enter Try.func61, Try.ntmps61
  go_wp2_with fail
  have hM : MeM w0 w G (.slice A n c) (((w.alloc (.cells #[.slice A n c] 30)).alloc (.cells #[.slice (some ⟨gs, os, none⟩) s.length cs] 22)).alloc (.cells #[.slice (some ⟨gt, ot, none⟩) t.length ct] 22)) (fun _ => []) [s] [t] (some ⟨w.heap.size + 1, 0, none⟩) 1 (some ⟨w.heap.size + 1 + 1, 0, none⟩) 1 := by
    have hB3 : Below w.heap.size w (((w.alloc (.cells #[.slice A n c] 30)).alloc (.cells #[.slice (some ⟨gs, os, none⟩) s.length cs] 22)).alloc (.cells #[.slice (some ⟨gt, ot, none⟩) t.length ct] 22)) := (((Below.refl _ _).alloc (Nat.le_refl _) _).alloc (by simp) _).alloc (by simp; omega) _
    refine ⟨⟨[.slice (some ⟨gs, os, none⟩) s.length cs], rfl, ?_, fun i hi => ?_⟩, ⟨[.slice (some ⟨gt, ot, none⟩) t.length ct], rfl, ?_, fun i hi => ?_⟩, fun b hb hb' => ?_, hb.below hB3, Only.of hB3, by simp; omega, ?_⟩
    · have := World.ownsRow_lit (e := 22) (size := 1) (base := w.heap.size + 1) (w.alloc (.cells #[.slice A n c] 30)) #[.slice (some ⟨gs, os, none⟩) s.length cs] 1 (by simp) (by simp [maxLen]) rfl
      try simp only [World.size_alloc] at this
      exact ownsRow_below this ((Below.refl _ _).alloc (Nat.le_refl _) _)
    · obtain rfl : i = 0 := by simpa using hi
      exact HV.out
    · have := World.ownsRow_lit (e := 22) (size := 1) (base := w.heap.size + 1) ((w.alloc (.cells #[.slice A n c] 30)).alloc (.cells #[.slice (some ⟨gs, os, none⟩) s.length cs] 22)) #[.slice (some ⟨gt, ot, none⟩) t.length ct] 1 (by simp) (by simp [maxLen]) rfl
      try simp only [World.size_alloc] at this
      exact this
    · obtain rfl : i = 0 := by simpa using hi
      exact HV'.out
    · simp [blk] at hb hb'; omega
    · have h0 : (w.alloc (.cells #[.slice A n c] 30)).cell? ⟨w.heap.size, 0, none⟩ = some (.slice A n c) := by simp
      exact keepC ((Below.refl _ _).alloc (Nat.le_refl _) _) (keepC ((Below.refl _ _).alloc (Nat.le_refl _) _) h0)
  have HM := Lib.hid hM
  clear hM hb
  generalize ((w.alloc (.cells #[.slice A n c] 30)).alloc (.cells #[.slice (some ⟨gs, os, none⟩) s.length cs] 22)).alloc (.cells #[.slice (some ⟨gt, ot, none⟩) t.length ct] 22) = W0 at *
  go_loopg [9, 10] k0 (fun g a b wr => ∃ (B : Un.Bd) (L R : List (List Int)) (A1 : Option Addr) (c1 : Nat) (A2 : Option Addr) (c2 m : Nat), a = .slice A1 m c1 ∧ b = .slice A2 m c2 ∧ Hid (m = L.length) ∧ Hid (MeM w0 w G (.slice A n c) wr B L R A1 c1 A2 c2) ∧ Hid (Un.Inv f B L R) ∧ Hid (Un.Eqs f B L R s t) ∧ Hid (Un.Fu f g B L R) ∧ Hid (Un.Low B L))
  case atStart => exact ⟨_, [s], [t], _, _, _, _, 1, rfl, rfl, rfl, HM, Lib.hid ⟨⟨_, _, HG.out⟩, rfl, by simpa using HW1.out, by simpa using HW2.out⟩, HE, HK, HLW⟩
  case round =>
    obtain ⟨B, L, R, A1, c1, A2, c2, m, rfl, rfl, hm, hM, hinv, heqs, hfu, hlow⟩ := hrel
    rcases list_last L with rfl | ⟨L0, a, rfl⟩
    · have hm0 : m = 0 := hm.out
      subst hm0
      have hdn := Lib.hid (heqs.out.done hinv.out.1)
      have hMo := hM.out.on
      have hMb := Lib.hid hM.out.bd
      go_wp2
      go_ret
      exact ⟨hMo, .inl ⟨B, rfl, hMb.out, hdn.out⟩⟩
    · rcases list_last R with rfl | ⟨R0, b, rfl⟩
      · have := hinv.out.2.1
        simp at this
      · have hLR : L0.length = R0.length := by have := hinv.out.2.1; simpa using this
        have hm1 : m = L0.length + 1 := by rw [hm.out]; simp
        subst hm1
        have hlr2 : R0.length = L0.length := hLR.symm
        obtain ⟨ga, va, rfl, hca, hsa, hstL, hlc1, hcm1⟩ := hM.out.l.pop
        obtain ⟨gb, vb, rfl, hcb, hsb, hstR, hlc2, hcm2⟩ := hM.out.r.pop
        rw [hlr2] at hcb hlc2
        unfold maxLen at hcm1 hcm2
        obtain ⟨⟨σ, rk, gd⟩, _, hwL, hwR⟩ := hinv.out
        have hwa := hwL a (by simp)
        have hwb := hwR b (by simp)
        obtain ⟨k1, u, hr1, hw1, hfr1, he1⟩ := Un.root_ex HFA.out gd hwa
        obtain ⟨k2, v, hr2, hw2, hfr2, he2⟩ := Un.root_ex HFA.out gd hwb
        have hI := gd.inB
        have hMP : Hid (MeM w0 w G (.slice A n c) wr B L0 R0 (some ⟨ga, 0, none⟩) c1 (some ⟨gb, 0, none⟩) c2) := ⟨hstL, hstR, hM.out.ap, hM.out.bd, hM.out.on, hM.out.sz, hM.out.bx⟩
        have hLEN := Lib.hid (hlow.out.len (gd.ext (bnd_short hM.out.bd gd)))
        have HIW := Lib.hid (show (∀ x ∈ L0, Un.WT f x) ∧ ∀ x ∈ R0, Un.WT f x from ⟨fun x hx => hwL x (by simp [hx]), fun x hx => hwR x (by simp [hx])⟩)
        have HLR := Lib.hid hLR
        have GD := Lib.hid gd
        have HWA := Lib.hid hwa
        have HWB := Lib.hid hwb
        have HU := Lib.hid hw1
        have HVW := Lib.hid hw2
        have HE1 := Lib.hid he1
        have HE2 := Lib.hid he2
        have HF1 := Lib.hid hfr1
        have HF2 := Lib.hid hfr2
        have HR1 := Lib.hid hr1
        have HR2 := Lib.hid hr2
        obtain ⟨gk', hgk⟩ : ∃ gk', gk' = gk := ⟨_, rfl⟩
        subst hgk
        have hon := hMP.out.on
        have hbd := hMP.out.bd
        have hpr := keepO hon (p := ⟨p, 0, none⟩) (by dsimp only; omega) hp
        have hor := ho.trans hon
        have e2 : (0 : Int) ≤ (L0.length : Int) := by omega
        have e3 : (L0.length : Int) ≤ (c1 : Int) := by omega
        have e3' : (L0.length : Int) ≤ (c2 : Int) := by omega
        have e4 : (L0.length : Int) < ((L0.length + 1 : Nat) : Int) := by omega
        clear hm hM hinv hstL hstR hwL hwR gd hwa hwb hw1 hw2 he1 he2 hfr1 hfr2 hLR hlr2 hon
        go_wp2_with fail
        refine (l11Head_any f p G w0 B k1 a u va _ hpr hbd hor hI hsa HWA.out HR1.out).mono ?_
        rintro e w1 ⟨z1, rfl, hz1, hb1⟩
        have hcb1 := keepC hb1 hcb
        have hM1 := Lib.hid (hMP.out.below hb1)
        have hon1 := hM1.out.on
        have hbd1 := hM1.out.bd
        have hpr1 := keepC hb1 hpr
        have hor1 := ho.trans hon1
        clear hb1 hMP hbd hor hpr hcb hca
        go_wp2_with fail
        refine (l11Head_any f p G w0 B k2 b v vb _ hpr1 hbd1 hor1 hI hsb HWB.out HR2.out).mono ?_
        rintro e w2 ⟨z2, rfl, hz2, hb2⟩
        have hM2 := Lib.hid (hM1.out.below hb2)
        have hon2 := hM2.out.on
        have hbd2 := hM2.out.bd
        have hpr2 := keepC hb2 hpr1
        have hor2 := ho.trans hon2
        clear hb2 hM1 hbd1 hor1 hpr1 hcb1 hon1
        obtain ⟨g1, o1, q1, rfl, ri1, hg1, l1, m1, n1, p1⟩ := hz1.some_ HU.out.ne
        obtain ⟨g2, o2, q2, rfl, ri2, hg2, l2, m2, n2, p2⟩ := hz2.some_ HVW.out.ne
        have hc1 := sv_head ri1 hg1 hor2 p1
        have hc2 := sv_head ri2 hg2 hor2 p2
        obtain ⟨x, hxe⟩ : ∃ x, Un.hd u = x := ⟨_, rfl⟩
        obtain ⟨y, hye⟩ : ∃ y, Un.hd v = y := ⟨_, rfl⟩
        rw [hxe] at hc1
        rw [hye] at hc2
        have HX := Lib.hid hxe
        have HY := Lib.hid hye
        have hne1 := HU.out.ne
        have hne2 := HVW.out.ne
        clear hxe hye
        by_cases hxy : x = y
        · subst hxy
          cases hx0 : decide (x < 0)
          · have hxn : ¬ x < 0 := by simpa using hx0
            have hxs : 0 ≤ x := by omega
            have hpl := Un.parts_len2 (f := f) (wt_tm HU.out) (wt_tm HVW.out) (by rw [HX.out, HY.out])
            have hpb : (Un.parts f u).length ≤ 3 := by rw [Un.parts_len, HF.out]; have := Pl.nxt_bd HS.out (u.getD 0 0); omega
            have hi9 : Un.Inv f B (L0 ++ Un.parts f u) (R0 ++ Un.parts f v) := ⟨⟨σ, rk, GD.out⟩, by rw [List.length_append, List.length_append, HLR.out, hpl], fun z hz => (List.mem_append.1 hz).elim (HIW.out.1 z) (Un.parts_wt HU.out z), fun z hz => (List.mem_append.1 hz).elim (HIW.out.2 z) (Un.parts_wt HVW.out z)⟩
            obtain ⟨j, hj, hj2⟩ := hfu.out.next ⟨L0, a, R0, b, u, v, rfl, rfl, ⟨k1, HR1.out⟩, ⟨k2, HR2.out⟩, .inr (.inr (.inr ⟨hd_sym HX.out hxs, by rw [HX.out, HY.out], rfl, rfl, rfl⟩))⟩ hi9
            have HI9 := Lib.hid hi9
            have HQ9 := Lib.hid (heqs.out.parts HFA.out HLR.out HU.out HVW.out (hd_sym HX.out hxs) (by rw [HX.out, HY.out]) HE1.out HE2.out)
            have HJ9 := Lib.hid hj2
            have HL9 := Lib.hid (hlow.out.parts HFA.out (fun i hi => GD.out.wt hi) HR1.out HWA.out HU.out hpb)
            have HJL := Lib.hid hj
            have HPL := Lib.hid hpl
            have hLEN2 : L0.length ≤ 6099 := by have := hLEN.out; rw [List.length_append] at this; omega
            have hbx2 := hM2.out.bx
            clear hi9 hj2 hj hpl
            go_wp2
            go_quiet (fail)
            go_wp2
            go_quiet (fail)
            go_wp2_with fail
            refine (l13Parts_w f w0 G A n c xs _ u _ HF.out hsg hz1 (by first | exact only_drewN hor2 _ | exact only_drewN (only_drewN hor2 _) _) HS.out (wt_tm HU.out) (hd_sym HX.out hxs)).mono ?_
            rintro e w3 ⟨A3, c3, rfl, hst3, hb3⟩
            have hM3 := Lib.hid (hM2.out.below (below_undrewN hb3))
            obtain ⟨vs3, hvl3, hsrc3, hsv3⟩ := hst3.src
            obtain ⟨vsL, hvlL, hownL, hsvL⟩ := hM3.out.l
            have hsz3 := hM3.out.sz
            clear hb3 hst3 hbx2 hpr2 hbd2
            go_wp2_with (at_builtin; (refine wpList_append_sep rfl _ _ 85 rfl (w.heap.size + 1) 22 i0 (.slice none 0 0) 1 24 Try.underlying85 hi iz0 iz1 iz2 rfl (by omega) (some ⟨ga, 0, none⟩) L0.length c1 vsL rfl hownL A3 (Un.parts f u).length c3 vs3 rfl hsrc3 (by unfold maxLen; omega) (by omega) (by omega) ?_); intro A5 c5 w5 ho5 hg5 hnil5 hwh5; have hM5 := Lib.hid (hM3.out.growL hGlt rfl rfl hvlL hvl3 hownL ho5 hsvL hsv3 hg5 hwh5); have hbx5 := hM5.out.bx)
            have hor5 := ho.trans hM5.out.on
            have hsz5 := hM5.out.sz
            have hpb2 : (Un.parts f v).length ≤ 3 := by rw [← HPL.out]; exact hpb
            clear hM3 hsrc3 hsv3 hvl3 hvlL hsvL hownL ho5 hg5
            refine (l13Parts_w f w0 G A n c xs _ v _ HF.out hsg hz2 hor5 HS.out (wt_tm HVW.out) (hd_sym HY.out hxs)).mono ?_
            rintro e w6 ⟨A4, c4, rfl, hst6, hb6⟩
            have hM6 := Lib.hid (hM5.out.below hb6)
            obtain ⟨vs6, hvl6, hsrc6, hsv6⟩ := hst6.src
            obtain ⟨vsR, hvlR, hownR, hsvR⟩ := hM6.out.r
            have hsz6 := hM6.out.sz
            rw [← HLR.out] at hownR
            clear hb6 hst6 hbx5 hM5
            go_wp2_with (at_builtin; (refine wpList_append_sep rfl _ _ 85 rfl (w.heap.size + 1) 22 i0 (.slice none 0 0) 1 24 Try.underlying85 hi iz0 iz1 iz2 rfl (by omega) (some ⟨gb, 0, none⟩) L0.length c2 vsR rfl hownR A4 (Un.parts f v).length c4 vs6 rfl hsrc6 (by unfold maxLen; omega) (by omega) (by omega) ?_); intro A7 c7 w7 ho7 hg7 hnil7 hwh7; have hM7 := Lib.hid (hM6.out.swap.growL hGlt HLR.out (by rw [HLR.out]) hvlR hvl6 hownR ho7 hsvR hsv6 hg7 hwh7).swap)
            go_roundg j
            case rel => exact ⟨B, _, _, _, _, _, _, _, rfl, by rw [HPL.out], Lib.hid (by rw [List.length_append]), hM7, HI9, HQ9, HJ9, HL9⟩
            case measure => exact HJL.out
          · have hst := Un.step_same HFA.out GD.out HU.out HVW.out (hd_neg HX.out hx0) (by rw [HX.out, HY.out]) HE1.out HE2.out
            have hi9 : Un.Inv f B L0 R0 := ⟨⟨σ, rk, GD.out⟩, HLR.out, HIW.out⟩
            obtain ⟨j, hj, hj2⟩ := hfu.out.next ⟨L0, a, R0, b, u, v, rfl, rfl, ⟨k1, HR1.out⟩, ⟨k2, HR2.out⟩, .inl ⟨by rw [HX.out, HY.out], hd_neg HX.out hx0, rfl, rfl, rfl⟩⟩ hi9
            have HI9 := Lib.hid hi9
            have HQ9 := Lib.hid (heqs.out.step HLR.out hst)
            have HJ9 := Lib.hid hj2
            have HL9 := Lib.hid hlow.out.pop
            have HJL := Lib.hid hj
            clear hst hi9 hj2 hj
            go_wp2
            go_quiet (fail)
            go_wp2
            go_roundg j
            case rel => exact ⟨B, L0, R0, _, _, _, _, L0.length, rfl, rfl, rfl, hM2.out.drewN _, HI9, HQ9, HJ9, HL9⟩
            case measure => exact HJL.out
        · have hxb : (x == y) = false := by simpa using hxy
          have hxq : (x != y) = true := by simpa using hxy
          cases hx0 : decide (x < 0)
          · have hxn : 0 ≤ x := by simpa using hx0
            cases hy0 : decide (y < 0)
            · have hcl := Lib.hid (heqs.out.clash HLR.out (Un.step_heads HFA.out HU.out HVW.out (hd_sym HX.out hxn) (hd_sym HY.out (by simpa using hy0)) (by rw [HX.out, HY.out]; exact hxy) HE1.out HE2.out))
              go_wp2
              go_quiet (fail)
              go_wp2
              go_quiet (fail)
              go_wp2
              go_ret
              exact ⟨only_drewN (only_drewN hon2 _) _, .inr ⟨rfl, hcl.out⟩⟩
            · have hvar : y < 0 := by simpa using hy0
              have hclash := fun ho => (Un.step_occ (s := b) (t := a) HFA.out GD.out HVW.out HU.out (hd_neg HY.out hy0) (hd_sym HX.out hxn) ho HE2.out HE1.out).swap
              go_wp2
              go_quiet (fail)
              go_wp2_with fail
              refine (l11Occurs_any f p G w0 B σ rk GD.out y hvar (by rw [← HY.out]; exact HF2.out (hd_neg HY.out hy0)) u _ _ (by exact hpr2) (by exact hbd2) (by exact only_drewN hor2 _) hz1 hne1 (wt_in HU.out)).mono ?_
              rintro e w3 ⟨rfl, hb3⟩
              have hM3 := Lib.hid (hM2.out.below (below_undrewN hb3))
              have hon3 := hM3.out.on
              have hpr3 := keepC (below_undrewN hb3) hpr2
              have hor3 := ho.trans hon3
              cases hoc : decide (y ∈ Un.ap σ u)
              · have hno : y ∉ Un.ap σ u := by simpa using hoc
                have hstp := (fun ho => (Un.step_bind (s := b) (t := a) HFA.out GD.out HVW.out HU.out (hd_neg HY.out hy0) (HF2.out (hd_neg HY.out hy0)) ho HE2.out HE1.out).swap) (by rw [HY.out]; exact hno)
                have hi9 : Un.Inv f _ L0 R0 := ⟨hstp.1, HLR.out, HIW.out⟩
                obtain ⟨j, hj, hj2⟩ := hfu.out.next ⟨L0, a, R0, b, u, v, rfl, rfl, ⟨k1, HR1.out⟩, ⟨k2, HR2.out⟩, (.inr (.inr (.inl ⟨hd_sym HX.out hxn, hd_neg HY.out hy0, rfl, rfl, rfl⟩)))⟩ hi9
                have HI9 := Lib.hid hi9
                have HQ9 := Lib.hid (heqs.out.step HLR.out hstp)
                have HJ9 := Lib.hid hj2
                have HL9 := Lib.hid (hlow.out.pop.put (HF2.out (hd_neg HY.out hy0)) u)
                have HJL := Lib.hid hj
                have hix : Un.ix y < 48 := by have := (HVW.out).ix (hd_neg HY.out hy0); rw [HY.out] at this; exact this
                have e1 : IntKind.i64.wrap (-1 - y) = (Un.ix y : Int) := by have := Un.ix_neg hvar; rw [this]; exact IntWalk.i64_in _ (by omega)
                have hM4 := Lib.hid (hM3.out.set_ hGlt hix hz1)
                obtain ⟨v5, hcU, _⟩ := hM3.out.bd.cell hix
                simp only [List.length_nil, Nat.zero_add] at hcU
                have hfz := hM3.out.bd.frozen (Un.ix y)
                have hc3 := sv_head ri2 hg2 hor3 p2
                rw [HY.out] at hc3 HI9 HQ9 HJ9 HL9
                clear hstp hi9 hj2 hj hno hc1 hc2 hbd2 hpr2 hb3
                generalize Un.ix y = i at *
                have hi0 : (0 : Int) ≤ (i : Int) := by omega
                have hi1 : (i : Int) < 48 := by omega
                go_wp2
                go_region
                go_wp2
                go_roundg j
                case rel => exact ⟨_, L0, R0, _, _, _, _, L0.length, rfl, rfl, rfl, hM4.out.drew, HI9, HQ9, HJ9, HL9⟩
                case measure => exact HJL.out
              · have hyes : y ∈ Un.ap σ u := by simpa using hoc
                have hcl := Lib.hid (heqs.out.clash HLR.out (hclash (by rw [HY.out]; exact hyes)))
                clear hyes hb3
                go_wp2
                go_ret
                exact ⟨hon3, .inr ⟨rfl, hcl.out⟩⟩
          · have hvar : x < 0 := by simpa using hx0
            have hclash : Un.hd u ∈ Un.ap σ v → Un.Clash f B a b := fun ho => by
              by_cases hv0 : Un.hd v < 0
              · have hev := Un.var_eq HFA.out HVW.out hv0
                have hfr := Un.fresh_var GD.out (x := Un.hd u) hv0 (HF2.out hv0) (by rw [HX.out, HY.out]; exact hxy)
                rw [hev] at ho
                exact absurd ho hfr
              · exact Un.step_occ HFA.out GD.out HU.out HVW.out (hd_neg HX.out hx0) hv0 ho HE1.out HE2.out
            go_wp2
            go_quiet (fail)
            go_wp2_with fail
            refine (l11Occurs_any f p G w0 B σ rk GD.out x hvar (by rw [← HX.out]; exact HF1.out (hd_neg HX.out hx0)) v _ _ (by exact hpr2) (by exact hbd2) (by exact only_drewN hor2 _) hz2 hne2 (wt_in HVW.out)).mono ?_
            rintro e w3 ⟨rfl, hb3⟩
            have hM3 := Lib.hid (hM2.out.below (below_undrewN hb3))
            have hon3 := hM3.out.on
            have hpr3 := keepC (below_undrewN hb3) hpr2
            have hor3 := ho.trans hon3
            cases hoc : decide (x ∈ Un.ap σ v)
            · have hno : x ∉ Un.ap σ v := by simpa using hoc
              have hstp := (fun ho => Un.step_bind HFA.out GD.out HU.out HVW.out (hd_neg HX.out hx0) (HF1.out (hd_neg HX.out hx0)) ho HE1.out HE2.out) (by rw [HX.out]; exact hno)
              have hi9 : Un.Inv f _ L0 R0 := ⟨hstp.1, HLR.out, HIW.out⟩
              obtain ⟨j, hj, hj2⟩ := hfu.out.next ⟨L0, a, R0, b, u, v, rfl, rfl, ⟨k1, HR1.out⟩, ⟨k2, HR2.out⟩, (.inr (.inl ⟨by rw [HX.out, HY.out]; exact hxy, hd_neg HX.out hx0, rfl, rfl, rfl⟩))⟩ hi9
              have HI9 := Lib.hid hi9
              have HQ9 := Lib.hid (heqs.out.step HLR.out hstp)
              have HJ9 := Lib.hid hj2
              have HL9 := Lib.hid (hlow.out.pop.put (HF1.out (hd_neg HX.out hx0)) v)
              have HJL := Lib.hid hj
              have hix : Un.ix x < 48 := by have := (HU.out).ix (hd_neg HX.out hx0); rw [HX.out] at this; exact this
              have e1 : IntKind.i64.wrap (-1 - x) = (Un.ix x : Int) := by have := Un.ix_neg hvar; rw [this]; exact IntWalk.i64_in _ (by omega)
              have hM4 := Lib.hid (hM3.out.set_ hGlt hix hz2)
              obtain ⟨v5, hcU, _⟩ := hM3.out.bd.cell hix
              simp only [List.length_nil, Nat.zero_add] at hcU
              have hfz := hM3.out.bd.frozen (Un.ix x)
              have hc3 := sv_head ri1 hg1 hor3 p1
              rw [HX.out] at hc3 HI9 HQ9 HJ9 HL9
              clear hstp hi9 hj2 hj hno hc1 hc2 hbd2 hpr2 hb3
              generalize Un.ix x = i at *
              have hi0 : (0 : Int) ≤ (i : Int) := by omega
              have hi1 : (i : Int) < 48 := by omega
              go_wp2
              go_region
              go_wp2
              go_roundg j
              case rel => exact ⟨_, L0, R0, _, _, _, _, L0.length, rfl, rfl, rfl, hM4.out.drew, HI9, HQ9, HJ9, HL9⟩
              case measure => exact HJL.out
            · have hyes : x ∈ Un.ap σ v := by simpa using hoc
              have hcl := Lib.hid (heqs.out.clash HLR.out (hclash (by rw [HX.out]; exact hyes)))
              clear hyes hb3
              go_wp2
              go_ret
              exact ⟨hon3, .inr ⟨rfl, hcl.out⟩⟩
end Go.Proofs.Ytcjgcopkeeiicaa
/-! Contracts: the places at which rules overlap, the reference's way. -/

namespace Go.Proofs.Ytcjgcopkeeiicaa
open Go.RowKit
set_option linter.unusedVariables false
set_option linter.unusedSimpArgs false

theorem meD_b {T : TypeId} {w0 w w' : World} {G : Nat} {f : Int → Int} {s t : List Int} {e : Ending} (h : MeD T w0 w G f s t e w') :
    ∃ b, e = .returned (.bool b) ∧ Only G (G + 1) w w' ∧ (b = true → ∃ B', Bnd w0 w' G T [] B' ∧ Un.Done f B' s t) ∧ (b = false → ¬ Un.Meets f s t) := by
  obtain ⟨h1, ⟨B', rfl, h2, h3⟩ | ⟨rfl, h2⟩⟩ := h
  · exact ⟨true, rfl, h1, (fun _ => ⟨B', h2, h3⟩), (fun h => by cases h)⟩
  · exact ⟨false, rfl, h1, (fun h => by cases h), (fun _ => h2)⟩
/-- How the reference's try to bring two rules together ends. -/
def TrD (T : TypeId) (w : World) (f : Int → Int) (s t : List Int) (e : Ending) (w' : World) : Prop :=
  Below w.heap.size w w' ∧ ∃ p G, w.heap.size ≤ G ∧ G < w'.heap.size ∧ w.heap.size ≤ p ∧ p ≠ G ∧
    ((∃ w0 B', e = .returned (.tuple #[.pointer (some ⟨p, 0, none⟩), .bool true]) ∧ Below w.heap.size w w0 ∧ G < w0.heap.size ∧ w'.cell? ⟨p, 0, none⟩ = some (.slice (some ⟨G, 0, none⟩) 48 48) ∧ Only G (G + 1) w0 w' ∧ Bnd w0 w' G T [] B' ∧ Un.Done f B' s t) ∨
     (e = .returned (.tuple #[.pointer (some ⟨p, 0, none⟩), .bool false]) ∧ ¬ Un.Meets f s t))
theorem SV.below_ {w0 w : World} {U : Nat} {v : Value} {t : List Int} (h : SV w0 U v t) (hb : Below w0.heap.size w0 w) : SV w U v t := h.only (Only.of hb)
theorem nil_rep : (madeCells (Value.slice none 0 0).cells (48 * 1)).toList = List.replicate 48 (Value.slice none 0 0) := by
  rw [show (Value.slice none 0 0).cells = #[.slice none 0 0] by rfl, toList_madeCells_one]
theorem keepX {U : Nat} {W w1 w2 : World} {p q r s o : Addr} {x y z u v : Value} (hb : Below w1.heap.size w1 w2) (h : Only U (U + 1) W w1 ∧ w1.cell? p = some x ∧ w1.cell? q = some y ∧ w1.cell? r = some z ∧ w1.cell? s = some u ∧ w1.cell? o = some v) :
    Only U (U + 1) W w2 ∧ w2.cell? p = some x ∧ w2.cell? q = some y ∧ w2.cell? r = some z ∧ w2.cell? s = some u ∧ w2.cell? o = some v :=
  ⟨h.1.trans (Only.of hb), keepC hb h.2.1, keepC hb h.2.2.1, keepC hb h.2.2.2.1, keepC hb h.2.2.2.2.1, keepC hb h.2.2.2.2.2⟩
theorem keepY {U : Nat} {W w1 w2 : World} {p q r s o : Addr} {x y z u v : Value} (ho : Only U (U + 1) w1 w2) (hp : p.block ≠ U ∧ q.block ≠ U ∧ r.block ≠ U ∧ s.block ≠ U ∧ o.block ≠ U) (h : Only U (U + 1) W w1 ∧ w1.cell? p = some x ∧ w1.cell? q = some y ∧ w1.cell? r = some z ∧ w1.cell? s = some u ∧ w1.cell? o = some v) :
    Only U (U + 1) W w2 ∧ w2.cell? p = some x ∧ w2.cell? q = some y ∧ w2.cell? r = some z ∧ w2.cell? s = some u ∧ w2.cell? o = some v :=
  ⟨h.1.trans ho, keepO ho (by omega) h.2.1, keepO ho (by omega) h.2.2.1, keepO ho (by omega) h.2.2.2.1, keepO ho (by omega) h.2.2.2.2.1, keepO ho (by omega) h.2.2.2.2.2⟩
theorem l11Rule_any (A : Option Addr) (n c : Nat) (B : Option Addr) (m d : Nat) (k : Int) (w : World) (hm : m ≤ 1048576) :
    Calls Try.prog 22 #[.agg #[.slice A n c, .slice B m d], .int .i64 k] w fun e w' => e = .returned (.bool (inB k 0 ((m : Int) - 1))) ∧ Below w.heap.size w w' := by
  go_enter Try.func22, Try.ntmps22
  go_wp2_with fail
  refine (l1In_any _ _ _ _).mono ?_
  rintro e w1 ⟨rfl, rfl⟩
  go_wp2_with fail
  go_ret
  exact ⟨rfl, (Below.refl _ _).alloc (Nat.le_refl _) _⟩
set_option maxHeartbeats 4000000 in
set_option maxRecDepth 20000 in
theorem l11Try_any (A : Option Addr) (n c : Nat) (xs : List Int) (B : Option Addr) (m d : Nat) (x : List (List Int × List Int)) (over q under : Nat) (l r l2 r2 : List Int) (w : World)
    (h : RI w A n xs) (h' : RU w B m x) (hs : Pl.sigOk xs = true) (hov : over < m) (hun : under < m) (hl : (l, r) = x.getD over ([], [])) (hl2 : (l2, r2) = x.getD under ([], [])) (T1 : Pl.termOk xs l = true) (T2 : Pl.termOk xs l2 = true) (hq : q < l.length) :
    Calls Try.prog 41 #[.agg #[.slice A n c, .slice B m d], .int .i64 over, .int .i64 q, .int .i64 under] w (TrD 22 w (Pl.nxt xs) (Pl.sub (Pl.nxt xs) l q) (l2.map (sh 24))) := by
  obtain ⟨j0, hi, iz0, iz1, iz2⟩ := info_parts infoSliceW
  obtain ⟨g, off, rfl, hcs⟩ := h'.2 (by omega)
  obtain ⟨L, ml, dl, R, mr, dr, hcl, hcr, hL, hR, hld, hdd, _, _⟩ := hcs over hov
  obtain ⟨L2, ml2, dl2, R2, mr2, dr2, hcl2, hcr2, hL2, hR2, hld2, hdd2, _, _⟩ := hcs under hun
  rw [← hl] at hL
  rw [← hl2] at hL2
  have hgw := World.block_lt_of_cell? w _ hcl
  have t1 := (Pl.termOk_iff.1 T1).2.1
  have t2 := (Pl.termOk_iff.1 T2).2.1
  have hl1 := hL.1
  rw [hL.1] at t1
  rw [hL2.1] at t2
  have HT1 := Lib.hid T1
  have HT2 := Lib.hid T2
  have HS := Lib.hid hs
  have HQ := Lib.hid hq
  have HML := Lib.hid hl1
  have i0 : (0 : Int) ≤ (over : Int) := by omega
  have i1 : (over : Int) < (m : Int) := by omega
  have i2 : (0 : Int) ≤ (under : Int) := by omega
  have i3 : (under : Int) < (m : Int) := by omega
  clear hl hl2 hcs hs hq T1 T2 hcr hcr2 hl1
  have hB0 : Below w.heap.size w (w.alloc (.cells #[.slice A n c, .slice (some ⟨g, off, none⟩) m d] 33)) := (Below.refl _ _).alloc (Nat.le_refl _) _
  have bk0 : Blk (w.alloc (.cells #[.slice A n c, .slice (some ⟨g, off, none⟩) m d] 33)) w.heap.size 33 #[.slice A n c, .slice (some ⟨g, off, none⟩) m d] := Blk.new w _ _
  have hs0 := bk0.lt
  have c0 : (w.alloc (.cells #[.slice A n c, .slice (some ⟨g, off, none⟩) m d] 33)).cell? ⟨w.heap.size, 0, none⟩ = some (.slice A n c) := by simp
  have c1 : (w.alloc (.cells #[.slice A n c, .slice (some ⟨g, off, none⟩) m d] 33)).cell? ⟨w.heap.size, 1, none⟩ = some (.slice (some ⟨g, off, none⟩) m d) := by simp
  have c2 := keepC hB0 hcl
  have c3 := keepC hB0 hcl2
  go_enter Try.func41, Try.ntmps41
  go_wp2_with (at_make; (refine wpList_make_full _ rfl _ _ 85 rfl (w.heap.size + 1) 22 j0 (.slice none 0 0) 1 Try.underlying85 hi iz0 iz1 .i64 .i64 _ _ 48 rfl rfl rfl rfl (by rw [iz2]; omega) (by unfold maxLen; omega) (by simp) ?_); intro w1 hown hg; have hb1 : Below (w.heap.size + 1) (w.alloc (.cells #[.slice A n c, .slice (some ⟨g, off, none⟩) m d] 33)) w1 := (Below.refl _ _).grown hg (by simp) (by simp); have hbA : Below w1.heap.size w1 (w1.alloc (.cells #[.slice (some ⟨w.heap.size + 1, 0, none⟩) 48 48] 91)) := (Below.refl _ _).alloc (Nat.le_refl _) _; have d0 := keepC hbA ((hb1.cell (p := ⟨w.heap.size, 0, none⟩) (Nat.lt_succ_self _)).trans c0); have d1 := keepC hbA ((hb1.cell (p := ⟨w.heap.size, 1, none⟩) (Nat.lt_succ_self _)).trans c1); have d2 := keepC hbA ((hb1.cell (p := ⟨g, off + over * 2, none⟩) (Nat.lt_succ_of_lt hgw)).trans c2); have d3 := keepC hbA ((hb1.cell (p := ⟨g, off + under * 2, none⟩) (Nat.lt_succ_of_lt hgw)).trans c3))
  rw [nil_rep] at hown
  simp only [World.size_alloc] at hown
  have hS1 : w.heap.size + 1 < w1.heap.size := (World.ownsRow.lt hown (w.heap.size + 1) rfl).2
  have hB1 : Below w.heap.size w w1 := hB0.trans (hb1.mono (by omega))
  have hBW := hB1.alloc hB1.size (.cells #[.slice (some ⟨w.heap.size + 1, 0, none⟩) 48 48] 91)
  have bkG := Lib.hid ((own_blk hown).alloc (.cells #[.slice (some ⟨w.heap.size + 1, 0, none⟩) 48 48] 91))
  have d4 : (w1.alloc (.cells #[.slice (some ⟨w.heap.size + 1, 0, none⟩) 48 48] 91)).cell? ⟨w1.heap.size, 0, none⟩ = some (.slice (some ⟨w.heap.size + 1, 0, none⟩) 48 48) := by simp
  have hpw : w1.heap.size < (w1.alloc (.cells #[.slice (some ⟨w.heap.size + 1, 0, none⟩) 48 48] 91)).heap.size := by simp
  clear c0 c1 c2 c3 bk0 hb1 hbA hown hg hB1 hs0
  generalize w1.alloc (.cells #[.slice (some ⟨w.heap.size + 1, 0, none⟩) 48 48] 91) = W at *
  generalize w1.heap.size = p at *
  have hLW := sv_old (U := w.heap.size + 1) hL (by omega) hBW hld hdd t1.1 t1.2
  have hSW := sg_old (U := w.heap.size + 1) h (by omega) hBW
  obtain ⟨gl, ol, hLe, _⟩ := ri_addr hL (by omega)
  subst hLe
  refine (l13End_w _ W (w.heap.size + 1) A n c xs _ l q _ rfl hSW hLW (Only.refl _ _ _) HS.out (tm_ok HT1.out) HQ.out).mono ?_
  rintro e w2 ⟨rfl, hb2⟩
  obtain ⟨_, f2, f3, _⟩ := Pl.fin_of (tm_ok HT1.out) HQ.out
  rw [HML.out] at f3
  have hvp := Lib.hid (sv_part (G := w.heap.size + 1) (f := Pl.nxt xs) (c := dl) (p := q) (by rw [HML.out]; exact hL.below (below_then hBW hb2 hBW.size)) (by omega) (by rw [HML.out]; exact hld) hdd (by rw [HML.out]; exact t1.2) (tm_ok HT1.out) HQ.out _ rfl _ rfl)
  generalize Pl.fin (Pl.nxt xs) l q = F at *
  have k0 : (0 : Int) ≤ (q : Int) := by omega
  have k1 : (q : Int) ≤ (F : Int) := by omega
  have k2 : (F : Int) ≤ (dl : Int) := by omega
  have hb02 := below_then hBW hb2 hBW.size
  have hs2 := hb2.size
  have bk2 := bkG.out.below hb2
  replace d0 := keepC hb2 d0
  replace d1 := keepC hb2 d1
  replace d3 := keepC hb2 d3
  replace d4 := keepC hb2 d4
  clear d2 hb2 hBW hLW hSW bkG
  go_wp2_with fail
  go_region_held3 (fun w' => Only (w.heap.size + 1) (w.heap.size + 1 + 1) w2 w' ∧ w'.cell? ⟨w.heap.size, 0, none⟩ = some (.slice A n c) ∧ w'.cell? ⟨w.heap.size, 1, none⟩ = some (.slice (some ⟨g, off, none⟩) m d) ∧ w'.cell? ⟨g, off + under * 2, none⟩ = some (.slice L2 ml2 dl2) ∧ w'.cell? ⟨p, 0, none⟩ = some (.slice (some ⟨w.heap.size + 1, 0, none⟩) 48 48))
    (first | exact ⟨⟨rfl, rfl, rfl, Nat.le_refl _, fun _ _ _ => rfl⟩, d0, d1, d3, d4⟩ | exact keepV ha2 ⟨⟨rfl, rfl, rfl, Nat.le_refl _, fun _ _ _ => rfl⟩, d0, d1, d3, d4⟩ | exact keepU ho4 (by dsimp only; omega) (by assumption))
    ((first | (go_at_call 49; refine (l11Away_any L2 ml2 dl2 l2 _ ?_ t2.2 (Pl.termOk_bd HT2.out)).mono ?_; exact (hL2.below hb02).drew; rintro e w3 ⟨A2, c2, rfl, oi3, ha2⟩; have hb03 := below_then hb02 (below_undrew1 ha2) hb02.size; have hs3 := (below_undrew1 ha2).size; have bk3 := bk2.below (below_undrew1 ha2); have hv3 := hvp.out.below_ (below_undrew1 ha2); have hw3 := sv_own (U := w.heap.size + 1) oi3 (by have e_ : w2.drew.heap.size = w2.heap.size := rfl; omega) t2.1 t2.2; have hsg3 := sg_old (U := w.heap.size + 1) h (by omega) hb03; have d5 := keepC (below_undrew1 ha2) d4) | (go_at_call 61; refine (l11Meet_any (Pl.nxt xs) p (w.heap.size + 1) w3 A n c xs rfl hsg3 HS.out (by omega) (by omega) (Pl.sub (Pl.nxt xs) l q) (l2.map (sh 24)) _ _ w3 d5 (bnd0 (by simpa using bk3)) (Only.refl _ _ _) hv3 hw3 (wt_sub (wt_ok HT1.out) HQ.out) (wt_away HT2.out)).mono ?_; intro e w4 hmd; obtain ⟨bb, rfl, ho4, hyes, hno⟩ := meD_b hmd)))
  rename_i hS
  have hb4 : Below w.heap.size w w4 := hb03.trans (ho4.below (by omega) hb03.size)
  have hs4 := ho4.size
  have hcp := hS.2.2.2.2
  have HY := Lib.hid hyes
  have HN := Lib.hid hno
  clear hS hyes hno bk3
  cases bb
  · have hcl := Lib.hid (HN.out rfl)
    go_wp2_with fail
    go_ret2
    exact ⟨hb4, p, w.heap.size + 1, by omega, by omega, by omega, by omega, .inr ⟨rfl, hcl.out⟩⟩
  · obtain ⟨B', hb', hst⟩ := HY.out rfl
    have HB' := Lib.hid hb'
    have HD := Lib.hid hst
    clear hb' hst
    go_wp2_with fail
    go_ret2
    exact ⟨hb4, p, w.heap.size + 1, by omega, by omega, by omega, by omega, .inl ⟨w3, B', rfl, hb03, by omega, hcp, ho4, HB'.out, HD.out⟩⟩
/-- What the reference's try tells. -/
theorem trD_b {T : TypeId} {w w' : World} {xs l l2 : List Int} {q : Nat} {e : Ending} (h : TrD T w (Pl.nxt xs) (Pl.sub (Pl.nxt xs) l q) (l2.map (sh 24)) e w') : OvB w (mtB xs l l2 q) e w' := by
  obtain ⟨h1, p, G, _, _, _, _, ⟨w0, B', rfl, _, _, _, _, _, hd⟩ | ⟨rfl, hn⟩⟩ := h
  · exact ⟨h1, _, by rw [mtB_yes hd.meets]⟩
  · exact ⟨h1, _, by rw [mtB_no hn]⟩
set_option maxHeartbeats 1000000 in
set_option maxRecDepth 20000 in
theorem l11Meets_any (A : Option Addr) (n c : Nat) (xs : List Int) (B : Option Addr) (m d : Nat) (x : List (List Int × List Int)) (over q under : Nat) (l r l2 r2 : List Int) (w : World)
    (h : RI w A n xs) (h' : RU w B m x) (hs : Pl.sigOk xs = true) (hov : over < m) (hun : under < m) (hl : (l, r) = x.getD over ([], [])) (hl2 : (l2, r2) = x.getD under ([], [])) (T1 : Pl.termOk xs l = true) (T2 : Pl.termOk xs l2 = true) (hq : q < l.length) :
    Calls Try.prog 23 #[.agg #[.slice A n c, .slice B m d], .int .i64 over, .int .i64 q, .int .i64 under] w fun e w' => e = .returned (.bool (ovB xs l l2 (decide (over = under)) q)) ∧ Below w.heap.size w w' := by
  obtain ⟨g, off, rfl, hcs⟩ := h'.2 (by omega)
  obtain ⟨L, ml, dl, R, mr, dr, hcl, hcr, hL, hR, hld, hdd, _, _⟩ := hcs over hov
  rw [← hl] at hL
  have hgw := World.block_lt_of_cell? w _ hcl
  have t1 := (Pl.termOk_iff.1 T1).2.1
  have hl1 := hL.1
  rw [hL.1] at t1
  have hqm : q < ml := by rw [← hl1]; exact hq
  obtain ⟨gl, ol, y, rfl, hcy, hy⟩ := hL.at_ hqm
  have HT1 := Lib.hid T1
  have HT2 := Lib.hid T2
  have HS := Lib.hid hs
  have HQ := Lib.hid hq
  have HLE := Lib.hid hl
  have HLE2 := Lib.hid hl2
  have i0 : (0 : Int) ≤ (over : Int) := by omega
  have i1 : (over : Int) < (m : Int) := by omega
  have hin : inB (q : Int) 0 ((ml : Int) - 1) = true := inB_mk (by omega)
  have HIN := Lib.hid hin
  have j0 : (0 : Int) ≤ (q : Int) := by omega
  have j1 : (q : Int) < (ml : Int) := by omega
  clear hl hl2 hcs hs hq T1 T2 hcr hl1 hin
  have hB0 : Below w.heap.size w (w.alloc (.cells #[.slice A n c, .slice (some ⟨g, off, none⟩) m d] 33)) := (Below.refl _ _).alloc (Nat.le_refl _) _
  have c2 := keepC hB0 hcl
  have c3 := keepC hB0 hcy
  have c0 : (w.alloc (.cells #[.slice A n c, .slice (some ⟨g, off, none⟩) m d] 33)).cell? ⟨w.heap.size, 0, none⟩ = some (.slice A n c) := by simp
  have c1 : (w.alloc (.cells #[.slice A n c, .slice (some ⟨g, off, none⟩) m d] 33)).cell? ⟨w.heap.size, 1, none⟩ = some (.slice (some ⟨g, off, none⟩) m d) := by simp
  have hR0 := h.alloc (.cells #[.slice A n c, .slice (some ⟨g, off, none⟩) m d] 33)
  have hU0 := h'.alloc (.cells #[.slice A n c, .slice (some ⟨g, off, none⟩) m d] 33)
  cases hy0 : decide (y < 0)
  · by_cases hz : over = under ∧ q = 0
    · obtain ⟨rfl, rfl⟩ := hz
      rw [Nat.add_zero] at c3
      have jm : 0 < ml := hqm
      have HE : Hid (ovB xs l l2 (decide (over = over)) 0 = false) := Lib.hid (by rw [decide_eq_true rfl, ovB_self])
      go_enter Try.func23, Try.ntmps23
      go_wp2_with fail
      refine (l1In_any _ _ _ _).mono ?_
      rintro e w1 ⟨rfl, rfl⟩
      rw [show inB 0 0 ((ml : Int) - 1) = true from HIN.out]
      go_wp2_with fail
      go_ret
      exact ⟨ret_bool HE.out.symm, hB0⟩
    · have HE : Hid (ovB xs l l2 (decide (over = under)) q = mtB xs l l2 q) := Lib.hid (ovB_mt (by rw [← hy.out]; simpa using hy0) (by rw [Bool.and_eq_false_iff]; simp only [decide_eq_false_iff_not]; omega))
      by_cases hq0 : q = 0
      · have hou : ((over : Int) == (under : Int)) = false := by simp; omega
        subst hq0
        rw [Nat.add_zero] at c3
        have jm : 0 < ml := hqm
        go_enter Try.func23, Try.ntmps23
        go_wp2_with fail
        refine (l1In_any _ _ _ _).mono ?_
        rintro e w1 ⟨rfl, rfl⟩
        rw [show inB 0 0 ((ml : Int) - 1) = true from HIN.out]
        go_wp2_with fail
        refine (l11Try_any A n c xs _ m d x over 0 under l r l2 r2 _ hR0 hU0 HS.out hov hun HLE.out HLE2.out HT1.out HT2.out HQ.out).mono ?_
        intro e w2 htr
        obtain ⟨hb2, v2, rfl⟩ := trD_b htr
        go_wp2_with fail
        go_ret
        exact ⟨ret_bool HE.out.symm, below_then hB0 hb2 (by simp)⟩
      · have hq1 : ((q : Int) == 0) = false := by simp; omega
        go_enter Try.func23, Try.ntmps23
        go_wp2_with fail
        refine (l1In_any _ _ _ _).mono ?_
        rintro e w1 ⟨rfl, rfl⟩
        rw [HIN.out]
        go_wp2_with fail
        refine (l11Try_any A n c xs _ m d x over q under l r l2 r2 _ hR0 hU0 HS.out hov hun HLE.out HLE2.out HT1.out HT2.out HQ.out).mono ?_
        intro e w2 htr
        obtain ⟨hb2, v2, rfl⟩ := trD_b htr
        go_wp2_with fail
        go_ret
        exact ⟨ret_bool HE.out.symm, below_then hB0 hb2 (by simp)⟩
  · have HE : Hid (ovB xs l l2 (decide (over = under)) q = false) := Lib.hid (ovB_var (by rw [← hy.out]; simpa using hy0))
    go_enter Try.func23, Try.ntmps23
    go_wp2_with fail
    refine (l1In_any _ _ _ _).mono ?_
    rintro e w1 ⟨rfl, rfl⟩
    rw [HIN.out]
    go_wp2_with fail
    go_ret
    exact ⟨ret_bool HE.out.symm, hB0⟩
set_option maxHeartbeats 2000000 in
set_option maxRecDepth 20000 in
theorem S_OverlapsIn (A : Option Addr) (n c : Nat) (xs : List Int) (B : Option Addr) (m d : Nat) (x : List (List Int × List Int)) (p q : Int) (w : World) (h : RI w A n xs) (h' : RU w B m x) (hs : n + wtU x ≤ 1048576) :
    Calls Try.prog 6 #[.agg #[.slice A n c, .slice B m d], .int .i64 p, .int .i64 q] w fun e w' => ∃ A' c', e = .returned (.slice A' (V_OverlapsIn xs x p q).length c') ∧ OI w' w.heap.size A' (V_OverlapsIn xs x p q).length c' (V_OverlapsIn xs x p q) ∧ Below w.heap.size w w' := by
  obtain ⟨i0, hi, hz0, hz1, hz2⟩ := info_parts infoInt64
  have hl := h'.1
  have hm1 : m ≤ 1048576 := by unfold wtU at hs; omega
  have hB0 : Below w.heap.size w ((w.alloc (.cells #[.slice A n c, .slice B m d] 33)).alloc (.cells #[] 2)) := ((Below.refl _ _).alloc (Nat.le_refl _) _).alloc (by simp) _
  have hOE : OI ((w.alloc (.cells #[.slice A n c, .slice B m d] 33)).alloc (.cells #[] 2)) (w.heap.size + 1) (some ⟨w.heap.size + 1, 0, none⟩) 0 0 [] := by
    have := OI.empty (w.alloc (.cells #[.slice A n c, .slice B m d] 33)) (B := w.heap.size + 1) (by simp)
    simpa only [World.size_alloc] using this
  have bk0 : Blk ((w.alloc (.cells #[.slice A n c, .slice B m d] 33)).alloc (.cells #[] 2)) w.heap.size 33 #[.slice A n c, .slice B m d] := (Blk.new w _ _).alloc _
  have BK0 := Lib.hid bk0
  have HOE := Lib.hid hOE
  have a0 : ((w.alloc (.cells #[.slice A n c, .slice B m d] 33)).alloc (.cells #[] 2)).cell? ⟨w.heap.size, 0, none⟩ = some (.slice A n c) := by simp
  have a1 : ((w.alloc (.cells #[.slice A n c, .slice B m d] 33)).alloc (.cells #[] 2)).cell? ⟨w.heap.size, 1, none⟩ = some (.slice B m d) := by simp
  clear bk0 hOE
  cases hS : systemOk xs x
  · have HE := overlapsIn_no (p := p) (q := q) (x := x) (xs := xs) (by rw [hS]; rfl)
    rw [HE]
    have HS := Lib.hid hS
    clear HE hl hS
    go_enter Try.func6, Try.ntmps6
    go_wp2_with fail
    refine (specSystemOk_any A n c xs B m d x _ (h.below hB0) (h'.below hB0) hs).mono ?_
    rintro e w1 ⟨rfl, hb1⟩
    rw [HS.out]
    go_wp2_with fail
    go_ret
    exact ⟨_, 0, rfl, (HOE.out.below hb1).base (by omega), below_then hB0 hb1 hB0.size⟩
  · cases hp : inB p 0 ((m : Int) - 1)
    · have HE := overlapsIn_no (p := p) (q := q) (x := x) (xs := xs) (by rw [hS, hl, hp]; rfl)
      rw [HE]
      have HS := Lib.hid hS
      have HP := Lib.hid hp
      clear HE hl hS hp
      go_enter Try.func6, Try.ntmps6
      go_wp2_with fail
      refine (specSystemOk_any A n c xs B m d x _ (h.below hB0) (h'.below hB0) hs).mono ?_
      rintro e w1 ⟨rfl, hb1⟩
      rw [HS.out]
      replace a0 := keepC hb1 a0
      replace a1 := keepC hb1 a1
      go_wp2_with fail
      refine (l11Rule_any A n c B m d p _ hm1).mono ?_
      rintro e w2 ⟨rfl, hb2⟩
      rw [HP.out]
      go_wp2_with fail
      go_ret
      exact ⟨_, 0, rfl, ((HOE.out.below hb1).below hb2).base (by omega), below_then (below_then hB0 hb1 hB0.size) hb2 (by have := hB0.size; have := hb1.size; omega)⟩
    · cases hq : inB q 0 ((m : Int) - 1)
      · have HE := overlapsIn_no (p := p) (q := q) (x := x) (xs := xs) (by rw [hS, hl, hp, hq]; rfl)
        rw [HE]
        have HS := Lib.hid hS
        have HP := Lib.hid hp
        have HQ := Lib.hid hq
        clear HE hl hS hp hq
        go_enter Try.func6, Try.ntmps6
        go_wp2_with fail
        refine (specSystemOk_any A n c xs B m d x _ (h.below hB0) (h'.below hB0) hs).mono ?_
        rintro e w1 ⟨rfl, hb1⟩
        rw [HS.out]
        replace a0 := keepC hb1 a0
        replace a1 := keepC hb1 a1
        go_wp2_with fail
        refine (l11Rule_any A n c B m d p _ hm1).mono ?_
        rintro e w2 ⟨rfl, hb2⟩
        rw [HP.out]
        replace a0 := keepC hb2 a0
        replace a1 := keepC hb2 a1
        go_wp2_with fail
        refine (l11Rule_any A n c B m d q _ hm1).mono ?_
        rintro e w3 ⟨rfl, hb3⟩
        rw [HQ.out]
        have hB := below_then (below_then hB0 hb1 hB0.size) hb2 (by have := hB0.size; have := hb1.size; omega)
        go_wp2_with fail
        go_ret
        exact ⟨_, 0, rfl, (((HOE.out.below hb1).below hb2).below hb3).base (by omega), below_then hB hb3 hB.size⟩
      · have hp' := inB_true hp
        have hq' := inB_true hq
        obtain ⟨over, rfl⟩ : ∃ k : Nat, p = k := ⟨p.toNat, by omega⟩
        obtain ⟨under, rfl⟩ : ∃ k : Nat, q = k := ⟨q.toNat, by omega⟩
        have hov : over < m := by omega
        have hun : under < m := by omega
        obtain ⟨⟨l, r⟩, hlr⟩ : ∃ z, z = x.getD over ([], []) := ⟨_, rfl⟩
        obtain ⟨⟨l2, r2⟩, hlr2⟩ : ∃ z, z = x.getD under ([], []) := ⟨_, rfl⟩
        have HE := overlapsIn_yes hS (by omega) (by omega) hlr hlr2
        rw [HE]
        have hT1 := Lib.hid (rule_term (sys_rule hS (by omega) hlr)).1
        have hT2 := Lib.hid (rule_term (sys_rule hS (by omega) hlr2)).1
        have HS := Lib.hid hS
        have HP := Lib.hid hp
        have HQ := Lib.hid hq
        have HSG := Lib.hid (systemOk_iff.1 hS).1
        have HLR := Lib.hid hlr
        have HLR2 := Lib.hid hlr2
        obtain ⟨g, off, rfl, hcs⟩ := h'.2 (by omega)
        obtain ⟨L, ml, dl, R, mr, dr, hcl, _, hL, _, _, _, _, _⟩ := hcs over hov
        rw [← hlr] at hL
        have HML := Lib.hid hL.1
        have t1 := (Pl.termOk_iff.1 hT1.out).2.1
        rw [hL.1] at t1
        have i0' : (0 : Int) ≤ (over : Int) := by omega
        have i1 : (over : Int) < (m : Int) := by omega
        rw [nats_length]
        obtain ⟨same, hsm⟩ : ∃ same, decide (over = under) = same := ⟨_, rfl⟩
        have HSM := Lib.hid hsm
        rw [hsm, hL.1]
        clear HE hl hS hp hq hlr hlr2 hp' hq' hcs hsm
        go_enter Try.func6, Try.ntmps6
        go_wp2_with fail
        refine (specSystemOk_any A n c xs _ m d x _ (h.below hB0) (h'.below hB0) hs).mono ?_
        rintro e w1 ⟨rfl, hb1⟩
        rw [HS.out]
        replace a0 := keepC hb1 a0
        replace a1 := keepC hb1 a1
        go_wp2_with fail
        refine (l11Rule_any A n c _ m d over _ hm1).mono ?_
        rintro e w2 ⟨rfl, hb2⟩
        rw [HP.out]
        replace a0 := keepC hb2 a0
        replace a1 := keepC hb2 a1
        go_wp2_with fail
        refine (l11Rule_any A n c _ m d under _ hm1).mono ?_
        rintro e w3 ⟨rfl, hb3⟩
        rw [HQ.out]
        have hB3 : Below w.heap.size w w3 := by
          have hB := below_then (below_then hB0 hb1 hB0.size) hb2 (by have := hB0.size; have := hb1.size; omega)
          exact below_then hB hb3 hB.size
        have BK3 := Lib.hid (((BK0.out.below hb1).below hb2).below hb3)
        have HO3 := Lib.hid (((HOE.out.below hb1).below hb2).below hb3)
        clear hb1 hb2 hb3 a0 a1 hB0 BK0 HOE
        go_wp2_with fail
        go_loopw [7, 8] (fun u i wr => ∃ (k : Nat) (A' : Option Addr) (c' j : Nat), k ≤ ml ∧ i = .int .i64 k ∧ u = .slice A' j c' ∧ Hid (j = (ovTo xs l l2 same k).length) ∧ Hid (OI wr (w.heap.size + 1) A' j c' (nats (ovTo xs l l2 same k))) ∧ Below w.heap.size w wr ∧ Hid (Blk wr w.heap.size 33 #[.slice A n c, .slice (some ⟨g, off, none⟩) m d])) (fun _ i _ => ml - (intOf i).toNat)
        case atStart => exact ⟨0, _, _, 0, Nat.zero_le _, rfl, rfl, Lib.hid rfl, HO3, hB3, BK3⟩
        case round =>
          obtain ⟨k, A', c', j, hk, rfl, rfl, hj, ho, hb, hbk⟩ := hrel
          have hjk : j ≤ 60 := by have := ovTo_len xs l l2 same k; rw [hj.out]; omega
          have hsz := hbk.out.lt
          have b0 : wr.cell? ⟨w.heap.size, 0, none⟩ = some (.slice A n c) := by have := hbk.out.cell 0; simpa using this
          have b1 : wr.cell? ⟨w.heap.size, 1, none⟩ = some (.slice (some ⟨g, off, none⟩) m d) := by have := hbk.out.cell 1; simpa using this
          have b2 := keepC hb hcl
          by_cases hlt : k < ml
          · go_wp2_with fail
            refine (l11Meets_any A n c xs (some ⟨g, off, none⟩) m d x over k under l r l2 r2 _ (h.below hb) (h'.below hb) HSG.out hov hun HLR.out HLR2.out hT1.out hT2.out (by rw [HML.out]; exact hlt)).mono ?_
            rintro e w4 ⟨rfl, hb4⟩
            rw [HSM.out]
            have hB4 := below_then hb hb4 hb.size
            have hbk4 := Lib.hid (hbk.out.below hb4)
            have ho4 : Hid (OI w4 (w.heap.size + 1) A' j c' (nats (ovTo xs l l2 same k))) := ho.out.below hb4
            have hsz4 := hbk4.out.lt
            cases hov1 : ovB xs l l2 same k
            · have HS1 := Lib.hid (ovTo_no hov1)
              clear hb4 ho hbk hb b0 b1 b2
              go_wp2_with fail
              go_roundw
              case rel => exact ⟨k + 1, A', c', j, by omega, by go_num, rfl, Lib.hid (by rw [HS1.out]; exact hj.out), Lib.hid (by rw [HS1.out]; exact ho4.out), hB4, hbk4⟩
              case measure => simp [intOf]; omega
            · have HS1 := Lib.hid (ovTo_yes hov1)
              clear hb4 ho hbk hb b0 b1 b2
              have howa := Lib.hid (ownsRow_below ho4.out ((Below.refl _ w4).alloc (Nat.le_refl _) (.cells #[.int .i64 k] 2)))
              go_wp2_with (at_builtin; refine wpList_append_any rfl _ _ 22 rfl (w.heap.size + 1) 2 i0 (.int .i64 0) 1 8 Try.underlying22 hi hz0 hz1 hz2 rfl (by omega) A' j c' ((nats (ovTo xs l l2 same k)).map (Value.int .i64)) rfl howa.out _ 1 _ [.int .i64 k] rfl (Src.new _ [.int .i64 k] _ 1 1 rfl (by simp [Value.oneCell'])) (by unfold maxLen; omega) (by omega) (by simp; omega) ?_; intro A2 c2 w2 ho2 hg hnil; (have hgb := app_below hg howa.out (by omega)))
              have hb5 := hB4.trans (hgb.mono (by omega))
              have hbk5 : Hid (Blk w2 w.heap.size 33 #[.slice A n c, .slice (some ⟨g, off, none⟩) m d]) := Lib.hid ((hgb.block _ (by omega)).trans hbk4.out)
              have hO5 : Hid (OI w2 (w.heap.size + 1) A2 (j + 1) c2 (nats (ovTo xs l l2 same (k + 1)))) := Lib.hid (by rw [HS1.out, nats_snoc]; unfold OI; rw [List.map_append]; exact ho2)
              clear hgb howa ho4 ho2 hg hB4 hbk4
              go_roundw
              case rel => exact ⟨k + 1, A2, c2, j + 1, by omega, by go_num, rfl, Lib.hid (by rw [HS1.out, List.length_append, ← hj.out]; rfl), hO5, hb5, hbk5⟩
              case measure => simp [intOf]; omega
          · have hkm : k = ml := by omega
            subst hkm
            go_wp2_with fail
            go_ret
            exact ⟨A', c', by rw [← hj.out]; rfl, OI.base (by rw [← hj.out]; exact ho.out) (by omega), hb⟩
end Go.Proofs.Ytcjgcopkeeiicaa
