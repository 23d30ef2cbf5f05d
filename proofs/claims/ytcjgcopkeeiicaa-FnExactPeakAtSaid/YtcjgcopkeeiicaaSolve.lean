/- Contracts: the program's equations. -/
import Derived.Test.YtcjgcopkeeiicaaWideS
import Derived.Test.YtcjgcopkeeiicaaOccS
import Derived.Test.YtcjgcopkeeiicaaHand
import Derived.Recover
import Derived.Laws.Pointers
namespace Go.Proofs.Ytcjgcopkeeiicaa
open Go.RowKit
set_option linter.unusedVariables false
set_option linter.unusedSimpArgs false

/-- How an equation ends: solved, or by a panic with the value C. -/
def EqD (T : TypeId) (hd : List Value) (C : Value) (w0 w : World) (U : Nat) (f : Int → Int) (B : Un.Bd) (s t : List Int) (e : Ending) (w' : World) : Prop :=
  Only U (U + 1) w w' ∧ ((∃ B', e = .returned (.tuple #[]) ∧ Bnd w0 w' U T hd B' ∧ Un.Step f B B' s t) ∨ (e = .panicked [{ v := C, recovered := false }] ∧ Un.Clash f B s t))
section
variable {T : TypeId} {hd : List Value} {C : Value} {w0 w w' : World} {U : Nat} {f : Int → Int} {B B' : Un.Bd} {s t : List Int}
theorem EqD.ok (h1 : Only U (U + 1) w w') (h2 : Bnd w0 w' U T hd B') (h3 : Un.Step f B B' s t) : EqD T hd C w0 w U f B s t (.returned (.tuple #[])) w' := ⟨h1, .inl ⟨B', rfl, h2, h3⟩⟩
theorem EqD.no (h1 : Only U (U + 1) w w') (h3 : Un.Clash f B s t) : EqD T hd C w0 w U f B s t (.panicked [{ v := C, recovered := false }]) w' := ⟨h1, .inr ⟨rfl, h3⟩⟩
end
/-- What holds between two rounds. -/
def EqRel (T : TypeId) (hd : List Value) (w0 wb : World) (U : Nat) (f : Int → Int) (B : Un.Bd) (u v : List Int) (m : Nat) (k : Value) (wr : World) : Prop :=
  ∃ (i : Nat) (Bi : Un.Bd), k = .int .i64 i ∧ i ≤ m ∧ Bnd w0 wr U T hd Bi ∧ Only U (U + 1) wb wr ∧ Un.StepTo f B Bi (Un.parts f u) (Un.parts f v) i
theorem parts_gt {f : Int → Int} {t : List Int} {j : Nat} (hj : j < (Pl.args f t 0).length) : Un.gt (Un.parts f t) j = Pl.sub f t ((Pl.args f t 0).getD j 0) := by
  unfold Un.gt Un.parts
  simp [List.getD_eq_getElem?_getD, hj]
theorem gt_mem {L : List (List Int)} {j : Nat} (hj : j < L.length) : Un.gt L j ∈ L := by
  unfold Un.gt
  rw [List.getD_eq_getElem?_getD, List.getElem?_eq_getElem hj, Option.getD_some]
  exact List.getElem_mem hj
theorem getD_memN {l : List Nat} {j : Nat} (hj : j < l.length) : l.getD j 0 ∈ l := by rw [List.getD_eq_getElem?_getD, List.getElem?_eq_getElem hj, Option.getD_some]; exact List.getElem_mem hj
theorem hd_sym {u : List Int} {x : Int} (e : Un.hd u = x) (h : 0 ≤ x) : ¬ Un.hd u < 0 := by rw [e]; omega
theorem hd_neg {u : List Int} {x : Int} (e : Un.hd u = x) (h : decide (x < 0) = true) : Un.hd u < 0 := by rw [e]; simpa using h
theorem seenL0 : (seenL fun _ => false).toArray = #[.bool false, .bool false, .bool false, .bool false, .bool false, .bool false, .bool false, .bool false, .bool false, .bool false, .bool false, .bool false, .bool false, .bool false, .bool false, .bool false, .bool false, .bool false, .bool false, .bool false, .bool false, .bool false, .bool false, .bool false, .bool false, .bool false, .bool false, .bool false, .bool false, .bool false, .bool false, .bool false, .bool false, .bool false, .bool false, .bool false, .bool false, .bool false, .bool false, .bool false, .bool false, .bool false, .bool false, .bool false, .bool false, .bool false, .bool false, .bool false] := by rfl
theorem seen_new (w : World) (T : TypeId) : Blk (w.alloc (.cells #[.bool false, .bool false, .bool false, .bool false, .bool false, .bool false, .bool false, .bool false, .bool false, .bool false, .bool false, .bool false, .bool false, .bool false, .bool false, .bool false, .bool false, .bool false, .bool false, .bool false, .bool false, .bool false, .bool false, .bool false, .bool false, .bool false, .bool false, .bool false, .bool false, .bool false, .bool false, .bool false, .bool false, .bool false, .bool false, .bool false, .bool false, .bool false, .bool false, .bool false, .bool false, .bool false, .bool false, .bool false, .bool false, .bool false, .bool false, .bool false] T)) w.heap.size T (seenL fun _ => false).toArray := by rw [seenL0]; exact Blk.new _ _ _
theorem wt_in {f : Int → Int} {t : List Int} (h : Un.WT f t) : Un.In 48 t := h.2
theorem only_drew {lo hi : Nat} {a w : World} (h : Only lo hi a w) : Only lo hi a w.drew := ⟨h.os, h.tape, h.output, h.size, h.block⟩
theorem wt_tm {f : Int → Int} {t : List Int} (h : Un.WT f t) : Un.Tm f t := h.1
theorem onlyS {U : Nat} {w0 w w' : World} {R : Prop} (h : Only U (U + 1) w0 w) (hS : Below w.heap.size w w' ∧ R) : Only U (U + 1) w0 w' := h.trans (Only.of hS.1)
/-- What holds of memory within a round. -/
theorem keepR {U : Nat} {W w1 w2 : World} {p q r : Addr} {x y z : Value} (hb : Below w1.heap.size w1 w2) (h : Only U (U + 1) W w1 ∧ w1.cell? p = some x ∧ w1.cell? q = some y ∧ w1.cell? r = some z) : Only U (U + 1) W w2 ∧ w2.cell? p = some x ∧ w2.cell? q = some y ∧ w2.cell? r = some z :=
  ⟨h.1.trans (Only.of hb), keepC hb h.2.1, keepC hb h.2.2.1, keepC hb h.2.2.2⟩

/-- The head of a term's slice. -/
theorem sv_head {w0 w : World} {G g off : Nat} {t : List Int} (h : RI w0 (some ⟨g, off, none⟩) t.length t) (hg : g ≠ G) (ho : Only G (G + 1) w0 w) (hp : 1 ≤ t.length) : w.cell? ⟨g, off, none⟩ = some (.int .i64 (Un.hd t)) := by
  obtain ⟨g', off', x', e1, e2, e3⟩ := ((ri_only h (fun _ a ha => by injection ha with ha; subst ha; exact hg) ho).at_ (k := 0) hp)
  injection e1 with e1
  injection e1 with e1 e4
  subst e1 e4
  rw [e3.out] at e2
  exact e2
set_option maxHeartbeats 4000000 in
set_option maxRecDepth 20000 in
theorem equate_any (f : Int → Int) (U : Nat) (w0 : World) (A : Option Addr) (n c : Nat) (xs : List Int) (hf : f = Pl.nxt xs) (hsg : SG w0 U A n xs) (hs : Pl.sigOk xs = true) (hU : U < w0.heap.size) :
    ∀ (N K : Nat) (B : Un.Bd) (σ : Int → List Int) (rk : Int → Nat) (s t : List Int) (v v' : Value) (w : World), Un.Good f 48 B σ rk → Un.free 48 B = N → (Un.ap σ s).length = K → SV w0 U v s → SV w0 U v' t → Un.WT f s → Un.WT f t →
      Bnd w0 w U 95 [.slice A n c] B → Only U (U + 1) w0 w →
    Calls Try.prog 75 #[.pointer (some ⟨U, 0, none⟩), v, v'] w (EqD 95 [.slice A n c] (.iface 103 (.agg #[])) w0 w U f B s t) := by
  intro N
  induction N using Nat.strongRecOn with
  | ind N ihN =>
    intro K
    induction K using Nat.strongRecOn with
    | ind K ihK =>
      intro B σ rk s t v1 v2 w gd hN hK hv1 hv2 hs1 hs2 hb ho
      have hfa : Un.Ar f := by rw [hf]; exact nxt_ar xs
      obtain ⟨k1, u1, hr1, hw1, hfr1, he1⟩ := Un.root_ex hfa gd hs1
      obtain ⟨k2, u2, hr2, hw2, hfr2, he2⟩ := Un.root_ex hfa gd hs2
      have hI := gd.inB
      have GD := Lib.hid gd
      have HW1 := Lib.hid hw1
      have HW2 := Lib.hid hw2
      have HE1 := Lib.hid he1
      have HE2 := Lib.hid he2
      have HF1 := Lib.hid hfr1
      have HF2 := Lib.hid hfr2
      have HN := Lib.hid hN
      have HK := Lib.hid hK
      have HF := Lib.hid hf
      have HFA := Lib.hid hfa
      have HS := Lib.hid hs
      clear gd hw1 hw2 he1 he2 hfr1 hfr2 hN hK hs hf
      go_enter Try.func75, Try.ntmps75
      go_wp2_with fail
      refine (root_any f U _ w0 B k1 s u1 v1 _ hb ho hI hv1 hs1 hr1).mono ?_
      rintro e w1 ⟨z1, rfl, hz1, hb1⟩
      have ho1 := ho.trans (Only.of hb1)
      have hw1 : Only U (U + 1) w w1 := Only.of hb1
      have hbd1 := hb.below hb1
      clear hb1
      go_wp2_with fail
      refine (root_any f U _ w0 B k2 t u2 v2 _ hbd1 ho1 hI hv2 hs2 hr2).mono ?_
      rintro e w2 ⟨z2, rfl, hz2, hb2⟩
      have ho2 := ho1.trans (Only.of hb2)
      replace hw1 := hw1.trans (Only.of hb2)
      have hbd2 := hbd1.below hb2
      clear hb2 hbd1 ho1 hr1 hr2
      obtain ⟨g1, o1, c1, rfl, ri1, hg1, l1, m1, n1, p1⟩ := hz1.some_ HW1.out.ne
      obtain ⟨g2, o2, c2, rfl, ri2, hg2, l2, m2, n2, p2⟩ := hz2.some_ HW2.out.ne
      have hc1 := sv_head ri1 hg1 ho2 p1
      have hc2 := sv_head ri2 hg2 ho2 p2
      obtain ⟨x, hxe⟩ : ∃ x, Un.hd u1 = x := ⟨_, rfl⟩
      obtain ⟨y, hye⟩ : ∃ y, Un.hd u2 = y := ⟨_, rfl⟩
      rw [hxe] at hc1
      rw [hye] at hc2
      have HX := Lib.hid hxe
      have HY := Lib.hid hye
      have hne1 := HW1.out.ne
      have hne2 := HW2.out.ne
      clear hxe hye
      by_cases hxy : x = y
      · subst hxy
        cases hx0 : decide (x < 0)
        · have hxn : ¬ x < 0 := by simpa using hx0
          have HXN := Lib.hid (show 0 ≤ x by omega)
          have hsg2 : w2.cell? ⟨U, 0, none⟩ = some (.slice A n c) := hbd2.head (i := 0) (by simp)
          go_wp2
          go_quiet (fail)
          go_wp2
          go_quiet (fail)
          go_wp2
          go_quiet (fail)
          go_wp2_with fail
          go_region_held3 (fun w' => Below w2.heap.size w2 w' ∧ w'.cell? ⟨U, 0, none⟩ = some (.slice A n c))
            (first | exact ⟨⟨rfl, rfl, rfl, Nat.le_refl _, fun _ _ => rfl⟩, hsg2⟩ | exact keepS1 ha1 ⟨⟨rfl, rfl, rfl, Nat.le_refl _, fun _ _ => rfl⟩, hsg2⟩ | exact keepS1 ha2 (by assumption))
            ((first | (go_at_call 81; with_reducible show Calls Try.prog 81 #[_, .slice (some ⟨g1, o1, none⟩) u1.length c1, _] _ _; refine (argsAt_w _ w0 U A n c xs _ u1 _ HF.out hsg hz1 ?_ HS.out (wt_tm HW1.out)).mono ?_; exact only_drewN ho2 _; rintro e wa ⟨A3, c3, rfl, oj3, ha1⟩) | (go_at_call 81; with_reducible show Calls Try.prog 81 #[_, .slice (some ⟨g2, o2, none⟩) u2.length c2, _] _ _; refine (argsAt_w _ w0 U A n c xs _ u2 _ HF.out hsg hz2 ?_ HS.out (wt_tm HW2.out)).mono ?_; exact onlyS ho2 (by assumption); rintro e wb ⟨A4, c4, rfl, oj4, ha2⟩)))
          rename_i hS
          obtain ⟨hbR, _⟩ := hS
          have ri3 : RI wb A3 (Pl.args f u1 0).length (nats (Pl.args f u1 0)) := oj3.ri.below ha2
          have ri4 : RI wb A4 (Pl.args f u2 0).length (nats (Pl.args f u2 0)) := oj4.ri
          have hU2 : U < w2.heap.size := Nat.lt_of_lt_of_le hU ho2.size
          have hUa : w2.heap.size ≤ wa.heap.size := ha1.size
          have oj3' : OJ wa w2.heap.size A3 (Pl.args f u1 0).length c3 (nats (Pl.args f u1 0)) := oj3
          have hg3 : ∀ a, A3 = some a → a.block ≠ U := fun a ha => by
            have := (World.ownsRow.lt oj3' a.block (by subst ha; rfl)).1
            omega
          have hg4 : ∀ a, A4 = some a → a.block ≠ U := fun a ha => by
            have := (World.ownsRow.lt oj4 a.block (by subst ha; rfl)).1
            omega
          have hbdb := hbd2.below hbR
          have hob := ho2.trans (Only.of hbR)
          have how := hw1.trans (Only.of hbR)
          have hL := Un.parts_len2 (f := f) HW1.out.1 HW2.out.1 (by rw [HX.out, HY.out])
          have HP1 := Lib.hid (fun j (hj : j < (Pl.args f u1 0).length) => parts_gt (f := f) (t := u1) hj)
          have HP2 := Lib.hid (fun j (hj : j < (Pl.args f u2 0).length) => parts_gt (f := f) (t := u2) hj)
          have HA1 := Lib.hid (fun j (hj : j < (Pl.args f u1 0).length) => (Pl.args_mem (wt_tm HW1.out) p1 _ (getD_memN hj)).2.2.1)
          have HA2 := Lib.hid (fun j (hj : j < (Pl.args f u2 0).length) => (Pl.args_mem (wt_tm HW2.out) p2 _ (getD_memN hj)).2.2.1)
          have HPW := Lib.hid (Un.parts_wts (f := f) (t := u1) HW1.out (hd_sym HX.out HXN.out) σ)
          have HW1P := Lib.hid (Un.parts_wt (f := f) HW1.out)
          have HW2P := Lib.hid (Un.parts_wt (f := f) HW2.out)
          have HK2 := Lib.hid (show (Un.ap σ u1).length = K by rw [HE1.out σ GD.out.sol, HK.out])
          have HALL := Lib.hid (fun Bi => Un.StepTo.all (Bi := Bi) HFA.out HW1.out HW2.out (hd_sym HX.out HXN.out) (by rw [HX.out, HY.out]) HE1.out HE2.out)
          have HCL := Lib.hid (fun Bi i => Un.StepTo.clash (Bi := Bi) (i := i) HFA.out HW1.out HW2.out (hd_sym HX.out HXN.out) (by rw [HX.out, HY.out]) HE1.out HE2.out)
          have hP1 : (Un.parts f u1).length = (Pl.args f u1 0).length := by unfold Un.parts; rw [List.length_map]
          have hP2 : (Un.parts f u2).length = (Pl.args f u2 0).length := by unfold Un.parts; rw [List.length_map]
          have hL12 : (Pl.args f u2 0).length = (Pl.args f u1 0).length := by rw [← hP1, ← hP2, hL]
          have hbd3 : (Pl.args f u1 0).length ≤ 60 := by
            have := Un.parts_few (f := f) (wt_tm HW1.out)
            omega
          clear oj3 oj3' oj4 ha1 ha2 hbR hL hbd2 hsg2
          generalize Pl.args f u1 0 = L1 at *
          generalize Pl.args f u2 0 = L2 at *
          have HL12 := Lib.hid hL12
          have HPL1 := Lib.hid hP1
          have HPL2 := Lib.hid hP2
          clear hL12 hP1 hP2
          go_wp2_with fail
          go_loopw [101] (fun k wr => EqRel 95 [.slice A n c] w0 wb U f B u1 u2 L1.length k wr) (fun k _ => L1.length - (intOf k).toNat)
          case atStart => exact ⟨0, B, rfl, Nat.zero_le _, hbdb, Only.refl _ _ _, Un.StepTo.zero GD.out _ _⟩
          case round =>
            obtain ⟨i, Bi, rfl, hi, hbi_, hoi, hst_⟩ := hrel
            have hbi := Lib.hid hbi_
            have hst := Lib.hid hst_
            clear hbi_ hst_
            by_cases hlt : i < L1.length
            · skip
              have hL12 := HL12.out
              have hP1 := HPL1.out
              have hP2 := HPL2.out
              obtain ⟨gp, op, p', rfl, hcp, hp⟩ := (ri_only ri3 (fun _ => hg3) hoi).at_ hlt
              obtain ⟨gq, oq, q', rfl, hcq, hq⟩ := (ri_only ri4 (fun _ => hg4) hoi).at_ (k := i) (by omega)
              rw [nats_getD _ _ hlt] at hp
              rw [nats_getD _ _ (by omega)] at hq
              have hpe := HP1.out i hlt
              have hqe := HP2.out i (by omega)
              have hpl := HA1.out i hlt
              have hql := HA2.out i (by omega)
              have hgp : gp ≠ U := hg3 _ rfl
              have hgq : gq ≠ U := hg4 _ rfl
              have hwp : Un.WT f (Un.gt (Un.parts f u1) i) := HW1P.out _ (gt_mem (by rw [hP1]; exact hlt))
              have hwq : Un.WT f (Un.gt (Un.parts f u2) i) := HW2P.out _ (gt_mem (by rw [hP2]; omega))
              have hcall : ∀ (w' : World) (va vb : Value), SV w0 U va (Un.gt (Un.parts f u1) i) → SV w0 U vb (Un.gt (Un.parts f u2) i) → Bnd w0 w' U 95 [.slice A n c] Bi → Only U (U + 1) w0 w' → Calls Try.prog 75 #[.pointer (some ⟨U, 0, none⟩), va, vb] w' (EqD 95 [.slice A n c] (.iface 103 (.agg #[])) w0 w' U f Bi (Un.gt (Un.parts f u1) i) (Un.gt (Un.parts f u2) i)) := by
                intro w' va vb hva hvb hbw how'
                obtain ⟨⟨σ', rk', gd'⟩, _, hcase⟩ := hst.out
                rcases hcase with rfl | hlt2
                · have hm := Un.wts_mem σ (gt_mem (L := Un.parts f u1) (j := i) (by rw [hP1]; exact hlt))
                  have h1 := HPW.out
                  have h2 := HK2.out
                  exact ihK _ (by omega) _ σ rk _ _ _ _ _ GD.out HN.out rfl hva hvb hwp hwq hbw how'
                · have h1 := HN.out
                  exact ihN _ (by omega) _ _ σ' rk' _ _ _ _ _ gd' rfl rfl hva hvb hwp hwq hbw how'
              rw [hpe, hqe] at hcall
              rw [hpe] at hwp
              rw [hqe] at hwq
              obtain ⟨p, hpp⟩ : ∃ p, L1.getD i 0 = p := ⟨_, rfl⟩
              obtain ⟨q, hqq⟩ : ∃ q, L2.getD i 0 = q := ⟨_, rfl⟩
              rw [hpp] at hp hpe hpl hwp hcall
              rw [hqq] at hq hqe hql hwq hcall
              have e1 : p' = (p : Int) := hp.out
              have e2 : q' = (q : Int) := hq.out
              subst e1 e2
              have HPE := Lib.hid hpe
              have HQE := Lib.hid hqe
              have HCALL := Lib.hid hcall
              have hi0 : (0 : Int) ≤ (i : Int) := by omega
              have hi1 : (i : Int) < (L1.length : Int) := by omega
              have hi2 : (i : Int) < (L2.length : Int) := by omega
              have hor := hob.trans hoi
              have hsgr : wr.cell? ⟨U, 0, none⟩ = some (.slice A n c) := hbi.out.head (i := 0) (by simp)
              clear hL12 hP1 hP2 hpp hqq hpe hqe hwp hwq hcall
              go_wp2_with fail
              refine region_begin (S := fun w' => Only U (U + 1) wr w' ∧ w'.cell? ⟨U, 0, none⟩ = some (.slice A n c) ∧ w'.cell? ⟨gp, op + i, none⟩ = some (.int .i64 p) ∧ w'.cell? ⟨gq, oq + i, none⟩ = some (.int .i64 q)) (by kernel_rfl) ⟨⟨rfl, rfl, rfl, Nat.le_refl _, fun _ _ _ => rfl⟩, hsgr, hcp, hcq⟩ (fun _ _ _ _ _ h => h) (fun HPQ hHeld => ?_)
              refine wpAnyH_take (i := 0) (v := ?_) (at_zero) (by kernel_rfl) (by kernel_rfl) (by kernel_rfl) (fun _ _ _ h => HPQ.out _ _ _ _ _ h) (Or.inl ⟨by rfl, ?_⟩) (by assumption) ?_
              rotate_left
              · intro w_ hS_
                try dsimp only at hS_
                go_simp
                all_goals with_reducible rfl
              try simp only [Act.put, List.setIfInBounds_toArray, List.set_cons_zero, List.set_cons_succ]
              refine wpAnyH_take (i := 1) (v := ?_) (at_succ at_zero) (by kernel_rfl) (by kernel_rfl) (by kernel_rfl) (fun _ _ _ h => HPQ.out _ _ _ _ _ h) (Or.inl ⟨by rfl, ?_⟩) (by assumption) ?_
              rotate_left
              · intro w_ hS_
                try dsimp only at hS_
                go_simp
                all_goals with_reducible rfl
              try simp only [Act.put, List.setIfInBounds_toArray, List.set_cons_zero, List.set_cons_succ]
              refine wpAnyH_take (i := 2) (v := ?_) (at_succ (at_succ at_zero)) (by kernel_rfl) (by kernel_rfl) (by kernel_rfl) (fun _ _ _ h => HPQ.out _ _ _ _ _ h) (Or.inl ⟨by rfl, ?_⟩) (by assumption) ?_
              rotate_left
              · intro w_ hS_
                try dsimp only at hS_
                go_simp
                all_goals with_reducible rfl
              try simp only [Act.put, List.setIfInBounds_toArray, List.set_cons_zero, List.set_cons_succ]
              refine wpAnyH_take (i := 3) (v := ?_) (at_succ (at_succ (at_succ at_zero))) (by kernel_rfl) (by kernel_rfl) (by kernel_rfl) (fun _ _ _ h => HPQ.out _ _ _ _ _ h) (Or.inl ⟨by rfl, ?_⟩) (by assumption) ?_
              rotate_left
              · intro w_ hS_
                try dsimp only at hS_
                go_simp
                all_goals with_reducible rfl
              try simp only [Act.put, List.setIfInBounds_toArray, List.set_cons_zero, List.set_cons_succ]
              refine wpAnyH_take (i := 4) (v := ?_) (at_succ (at_succ (at_succ (at_succ at_zero)))) (by kernel_rfl) (by kernel_rfl) (by kernel_rfl) (fun _ _ _ h => HPQ.out _ _ _ _ _ h) (Or.inl ⟨by rfl, ?_⟩) (by assumption) ?_
              rotate_left
              · intro w_ hS_
                try dsimp only at hS_
                go_simp
                all_goals with_reducible rfl
              try simp only [Act.put, List.setIfInBounds_toArray, List.set_cons_zero, List.set_cons_succ]
              refine wpAnyH_take (i := 5) (v := ?_) (at_succ (at_succ (at_succ (at_succ (at_succ at_zero))))) (by kernel_rfl) (by kernel_rfl) (by kernel_rfl) (fun _ _ _ h => HPQ.out _ _ _ _ _ h) (Or.inl ⟨by rfl, ?_⟩) (by assumption) ?_
              rotate_left
              · intro w_ hS_
                try dsimp only at hS_
                go_simp
                all_goals with_reducible rfl
              try simp only [Act.put, List.setIfInBounds_toArray, List.set_cons_zero, List.set_cons_succ]
              refine wpAnyH_take (i := 6) (v := ?_) (at_succ (at_succ (at_succ (at_succ (at_succ (at_succ at_zero)))))) (by kernel_rfl) (by kernel_rfl) (by kernel_rfl) (fun _ _ _ h => HPQ.out _ _ _ _ _ h) (Or.inl ⟨by rfl, ?_⟩) (by assumption) ?_
              rotate_left
              · intro w_ hS_
                try dsimp only at hS_
                go_simp
                all_goals with_reducible rfl
              try simp only [Act.put, List.setIfInBounds_toArray, List.set_cons_zero, List.set_cons_succ]
              refine wpAnyH_take (i := 7) (v := ?_) (at_succ (at_succ (at_succ (at_succ (at_succ (at_succ (at_succ at_zero))))))) (by kernel_rfl) (by kernel_rfl) (by kernel_rfl) (fun _ _ _ h => HPQ.out _ _ _ _ _ h) (Or.inl ⟨by rfl, ?_⟩) (by assumption) ?_
              rotate_left
              · intro w_ hS_
                try dsimp only at hS_
                go_simp
                all_goals with_reducible rfl
              try simp only [Act.put, List.setIfInBounds_toArray, List.set_cons_zero, List.set_cons_succ]
              refine wpAnyH_take (i := 8) (v := ?_) (at_succ (at_succ (at_succ (at_succ (at_succ (at_succ (at_succ (at_succ at_zero)))))))) (by kernel_rfl) (by kernel_rfl) (by kernel_rfl) (fun _ _ _ h => HPQ.out _ _ _ _ _ h) (Or.inl ⟨by rfl, ?_⟩) (by assumption) ?_
              rotate_left
              · intro w_ hS_
                try dsimp only at hS_
                go_simp
                all_goals with_reducible rfl
              try simp only [Act.put, List.setIfInBounds_toArray, List.set_cons_zero, List.set_cons_succ]
              refine wpAnyH_take (i := 9) (v := ?_) (at_succ (at_succ (at_succ (at_succ (at_succ (at_succ (at_succ (at_succ (at_succ at_zero))))))))) (by kernel_rfl) (by kernel_rfl) (by kernel_rfl) (fun _ _ _ h => HPQ.out _ _ _ _ _ h) (Or.inl ⟨by rfl, ?_⟩) (by assumption) ?_
              rotate_left
              · intro w_ hS_
                try dsimp only at hS_
                go_simp
                all_goals with_reducible rfl
              try simp only [Act.put, List.setIfInBounds_toArray, List.set_cons_zero, List.set_cons_succ]
              refine wpAnyH_take (i := 11) (v := ?_) (at_succ (at_succ (at_succ (at_succ (at_succ (at_succ (at_succ (at_succ (at_succ (at_succ (at_succ at_zero))))))))))) (by kernel_rfl) (by kernel_rfl) (by kernel_rfl) (fun _ _ _ h => HPQ.out _ _ _ _ _ h) (Or.inl ⟨by rfl, ?_⟩) (by assumption) ?_
              rotate_left
              · intro w_ hS_
                try dsimp only at hS_
                go_simp
                all_goals with_reducible rfl
              try simp only [Act.put, List.setIfInBounds_toArray, List.set_cons_zero, List.set_cons_succ]
              refine wpAnyH_take (i := 12) (v := ?_) (at_succ (at_succ (at_succ (at_succ (at_succ (at_succ (at_succ (at_succ (at_succ (at_succ (at_succ (at_succ at_zero)))))))))))) (by kernel_rfl) (by kernel_rfl) (by kernel_rfl) (fun _ _ _ h => HPQ.out _ _ _ _ _ h) (Or.inl ⟨by rfl, ?_⟩) (by assumption) ?_
              rotate_left
              · intro w_ hS_
                try dsimp only at hS_
                go_simp
                all_goals with_reducible rfl
              try simp only [Act.put, List.setIfInBounds_toArray, List.set_cons_zero, List.set_cons_succ]
              refine wpAnyH_take (i := 13) (v := ?_) (at_succ (at_succ (at_succ (at_succ (at_succ (at_succ (at_succ (at_succ (at_succ (at_succ (at_succ (at_succ (at_succ at_zero))))))))))))) (by kernel_rfl) (by kernel_rfl) (by kernel_rfl) (fun _ _ _ h => HPQ.out _ _ _ _ _ h) (Or.inl ⟨by rfl, ?_⟩) (by assumption) ?_
              rotate_left
              · intro w_ hS_
                try dsimp only at hS_
                go_simp
                all_goals with_reducible rfl
              try simp only [Act.put, List.setIfInBounds_toArray, List.set_cons_zero, List.set_cons_succ]
              refine wpAnyH_take (i := 14) (v := ?_) (at_succ (at_succ (at_succ (at_succ (at_succ (at_succ (at_succ (at_succ (at_succ (at_succ (at_succ (at_succ (at_succ (at_succ at_zero)))))))))))))) (by kernel_rfl) (by kernel_rfl) (by kernel_rfl) (fun _ _ _ h => HPQ.out _ _ _ _ _ h) (Or.inl ⟨by rfl, ?_⟩) (by assumption) ?_
              rotate_left
              · intro w_ hS_
                try dsimp only at hS_
                go_simp
                all_goals with_reducible rfl
              try simp only [Act.put, List.setIfInBounds_toArray, List.set_cons_zero, List.set_cons_succ]
              refine wpAnyH_take (i := 15) (v := ?_) (at_succ (at_succ (at_succ (at_succ (at_succ (at_succ (at_succ (at_succ (at_succ (at_succ (at_succ (at_succ (at_succ (at_succ (at_succ at_zero))))))))))))))) (by kernel_rfl) (by kernel_rfl) (by kernel_rfl) (fun _ _ _ h => HPQ.out _ _ _ _ _ h) (Or.inl ⟨by rfl, ?_⟩) (by assumption) ?_
              rotate_left
              · intro w_ hS_
                try dsimp only at hS_
                go_simp
                all_goals with_reducible rfl
              try simp only [Act.put, List.setIfInBounds_toArray, List.set_cons_zero, List.set_cons_succ]
              refine wpAnyH_take (i := 16) (v := ?_) (at_succ (at_succ (at_succ (at_succ (at_succ (at_succ (at_succ (at_succ (at_succ (at_succ (at_succ (at_succ (at_succ (at_succ (at_succ (at_succ at_zero)))))))))))))))) (by kernel_rfl) (by kernel_rfl) (by kernel_rfl) (fun _ _ _ h => HPQ.out _ _ _ _ _ h) (Or.inl ⟨by rfl, ?_⟩) (by assumption) ?_
              rotate_left
              · intro w_ hS_
                try dsimp only at hS_
                go_simp
                all_goals with_reducible rfl
              try simp only [Act.put, List.setIfInBounds_toArray, List.set_cons_zero, List.set_cons_succ]
              refine wpAnyH_take (i := 17) (v := ?_) (at_succ (at_succ (at_succ (at_succ (at_succ (at_succ (at_succ (at_succ (at_succ (at_succ (at_succ (at_succ (at_succ (at_succ (at_succ (at_succ (at_succ at_zero))))))))))))))))) (by kernel_rfl) (by kernel_rfl) (by kernel_rfl) (fun _ _ _ h => HPQ.out _ _ _ _ _ h) (Or.inl ⟨by rfl, ?_⟩) (by assumption) ?_
              rotate_left
              · intro w_ hS_
                try dsimp only at hS_
                go_simp
                all_goals with_reducible rfl
              try simp only [Act.put, List.setIfInBounds_toArray, List.set_cons_zero, List.set_cons_succ]
              refine wpAnyH_take (i := 18) (v := ?_) (at_succ (at_succ (at_succ (at_succ (at_succ (at_succ (at_succ (at_succ (at_succ (at_succ (at_succ (at_succ (at_succ (at_succ (at_succ (at_succ (at_succ (at_succ at_zero)))))))))))))))))) (by kernel_rfl) (by kernel_rfl) (by kernel_rfl) (fun _ _ _ h => HPQ.out _ _ _ _ _ h) (Or.inl ⟨by rfl, ?_⟩) (by assumption) ?_
              rotate_left
              · intro w_ hS_
                try dsimp only at hS_
                go_simp
                all_goals with_reducible rfl
              try simp only [Act.put, List.setIfInBounds_toArray, List.set_cons_zero, List.set_cons_succ]
              refine wpAnyH_take (i := 19) (v := ?_) (at_succ (at_succ (at_succ (at_succ (at_succ (at_succ (at_succ (at_succ (at_succ (at_succ (at_succ (at_succ (at_succ (at_succ (at_succ (at_succ (at_succ (at_succ (at_succ at_zero))))))))))))))))))) (by kernel_rfl) (by kernel_rfl) (by kernel_rfl) (fun _ _ _ h => HPQ.out _ _ _ _ _ h) (Or.inl ⟨by rfl, ?_⟩) (by assumption) ?_
              rotate_left
              · intro w_ hS_
                try dsimp only at hS_
                go_simp
                all_goals with_reducible rfl
              try simp only [Act.put, List.setIfInBounds_toArray, List.set_cons_zero, List.set_cons_succ]
              refine wpAnyH_ready (rs := [10]) (by kernel_rfl) (by simp) ?_
              refine AllReadyH.cons (at_succ (at_succ (at_succ (at_succ (at_succ (at_succ (at_succ (at_succ (at_succ (at_succ at_zero)))))))))) (fun K hK => ?_) AllReadyH.nil
              go_simp
              (go_at_call 65; refine (subAt_w _ w0 U A n c xs _ u1 p _ HF.out hsg hz1 (hor.trans hHeld.1) HS.out (wt_tm HW1.out) hpl).mono ?_; rintro e w6 ⟨va, rfl, hva, hb6⟩)
              try go_wp2_with fail
              refine hK.out _ _ (keepR hb6 hHeld) (fun hHeld => ?_)
              clear hK K
              try simp only [Act.put, List.setIfInBounds_toArray, List.set_cons_zero, List.set_cons_succ]
              refine wpAnyH_ready (rs := [20]) (by kernel_rfl) (by simp) ?_
              refine AllReadyH.cons (at_succ (at_succ (at_succ (at_succ (at_succ (at_succ (at_succ (at_succ (at_succ (at_succ (at_succ (at_succ (at_succ (at_succ (at_succ (at_succ (at_succ (at_succ (at_succ (at_succ at_zero)))))))))))))))))))) (fun K hK => ?_) AllReadyH.nil
              go_simp
              (go_at_call 65; refine (subAt_w _ w0 U A n c xs _ u2 q _ HF.out hsg hz2 (hor.trans hHeld.1) HS.out (wt_tm HW2.out) hql).mono ?_; rintro e w7 ⟨vb, rfl, hvb, hb7⟩)
              try go_wp2_with fail
              refine hK.out _ _ (keepR hb7 hHeld) (fun hHeld => ?_)
              clear hK K
              try simp only [Act.put, List.setIfInBounds_toArray, List.set_cons_zero, List.set_cons_succ]
              refine wpAnyH_ready (rs := [21]) (by kernel_rfl) (by simp) ?_
              refine AllReadyH.cons (at_succ (at_succ (at_succ (at_succ (at_succ (at_succ (at_succ (at_succ (at_succ (at_succ (at_succ (at_succ (at_succ (at_succ (at_succ (at_succ (at_succ (at_succ (at_succ (at_succ (at_succ at_zero))))))))))))))))))))) (fun K hK => ?_) AllReadyH.nil
              go_simp
              have hbi7 : Bnd w0 w7 U 95 [.slice A n c] Bi := (hbi.out.below (show Below wr.heap.size wr w6 from ⟨hb6.os, hb6.tape, hb6.output, hb6.size, hb6.block⟩)).below hb7
              refine (HCALL.out _ va vb hva hvb hbi7 (hor.trans hHeld.1)).mono ?_
              rintro e w8 ⟨ho8, ⟨B', rfl, hb8, hst8⟩ | ⟨rfl, hcl8⟩⟩
              · have hst9 := Lib.hid (hst.out.next (B' := B') (by rw [HPE.out, HQE.out]; exact hst8))
                refine hK.out _ _ ⟨hHeld.1.trans ho8, hb8.head (i := 0) (by simp), keepO ho8 (by dsimp only; omega) hHeld.2.2.1, keepO ho8 (by dsimp only; omega) hHeld.2.2.2⟩ (fun hHeld => ?_)
                clear hK K
                try simp only [Act.put, List.setIfInBounds_toArray, List.set_cons_zero, List.set_cons_succ]
                refine wpAnyH_done (by kernel_rfl) ?_ _
                go_wp2_with fail
                go_roundw
                case rel => exact ⟨i + 1, B', by go_num, by omega, hb8, hoi.trans hHeld.1, hst9.out⟩
                case measure => simp [intOf]; omega
              · have hcl9 := HCL.out Bi i (by rw [HPL1.out]; exact hlt) hst.out (by rw [HPE.out, HQE.out]; exact hcl8)
                exact ⟨rfl, EqD.no (how.trans (hoi.trans (hHeld.1.trans ho8))) hcl9⟩
            · have hie : i = L1.length := by omega
              have hfin := Lib.hid (HALL.out Bi (by rw [HPL1.out, ← hie]; exact hst.out))
              go_wp2
              refine bodyPost_ret (results_none rfl _ _ _) rfl ?_
              exact EqD.ok (how.trans hoi) hbi.out hfin.out
        · have hst := Lib.hid (Un.step_same HFA.out GD.out HW1.out HW2.out (by rw [HX.out]; simpa using hx0) (by rw [HX.out, HY.out]) HE1.out HE2.out)
          go_wp2
          go_quiet (fail)
          go_wp2
          refine bodyPost_ret (results_none rfl _ _ _) rfl ?_
          exact EqD.ok (only_drewN hw1 _) hbd2 hst.out
      · have hxb : (x == y) = false := by simpa using hxy
        have hxq : (x != y) = true := by simpa using hxy
        have hyx : ¬ y = x := fun e => hxy e.symm
        cases hx0 : decide (x < 0)
        · have hxn : ¬ x < 0 := by simpa using hx0
          cases hy0 : decide (y < 0)
          · have hyn : ¬ y < 0 := by simpa using hy0
            have hst := Lib.hid (Un.step_heads HFA.out HW1.out HW2.out (by rw [HX.out]; exact hxn) (by rw [HY.out]; exact hyn) (by rw [HX.out, HY.out]; exact hxy) HE1.out HE2.out)
            go_wp2
            go_quiet (fail)
            go_wp2
            go_quiet (fail)
            go_wp2
            go_quiet (fail)
            go_wp2
            exact ⟨rfl, EqD.no (only_drewN hw1 _) hst.out⟩
          · have hst := Lib.hid (fun ho => (Un.step_occ (s := t) (t := s) HFA.out GD.out HW2.out HW1.out (hd_neg HY.out hy0) (hd_sym HX.out (by omega)) ho HE2.out HE1.out).swap)
            have hsb := Lib.hid (fun ho => (Un.step_bind (s := t) (t := s) HFA.out GD.out HW2.out HW1.out (hd_neg HY.out hy0) (HF2.out (hd_neg HY.out hy0)) ho HE2.out HE1.out).swap)
            have hvar : y < 0 := by simpa using hy0
            have hx0' : decide (0 ≤ x) = true := by simpa using hxn
            go_wp2
            go_quiet (fail)
            go_wp2
            go_quiet (fail)
            go_wp2_with fail
            refine (occurs_any f U _ w0 B σ rk GD.out y hvar (by rw [← HY.out]; exact HF2.out (hd_neg HY.out hy0)) 48 u1 _ _ (fun _ => false) _ (Un.un_bd _) hz1 hne1 (wt_in HW1.out) (hbd2.below ((below_drewN (Below.refl _ _) _).alloc (Nat.le_refl _) _)) (ho2.trans (Only.of ((below_drewN (Below.refl _ _) _).alloc (Nat.le_refl _) _))) ho2.size hU (seen_new _ _)).mono ?_
            rintro e w5 ⟨r, S5, rfl, hos5, hbk5, hyes, hno⟩
            have hbd5 := (hbd2.below ((below_drewN (Below.refl _ _) _).alloc (Nat.le_refl _) _)).only hos5 (by have := ho2.size; omega)
            have ho5 := only_far (ho2.trans (Only.of ((below_drewN (Below.refl _ _) _).alloc (Nat.le_refl _) _))) hos5 ho2.size
            have hw5 := only_far (hw1.trans (Only.of ((below_drewN (Below.refl _ _) _).alloc (Nat.le_refl _) _))) hos5 hw1.size
            cases r
            · have hno' := Un.occ_no GD.out hvar (hno rfl).1 (hno rfl).2
              have hst5 := Lib.hid (hsb.out (by rw [HY.out]; exact hno'))
              clear hbk5 hyes hno hos5 hno' hbd2 hc1 hc2
              have hc5 := sv_head ri2 hg2 ho5 p2
              rw [HY.out] at hc5
              have hi : Un.ix y < 48 := by have := (HW2.out).ix (hd_neg HY.out hy0); rw [HY.out] at this; exact this
              have e1 : IntKind.i64.wrap (-1 - y) = (Un.ix y : Int) := by have := Un.ix_neg hvar; rw [this]; exact IntWalk.i64_in _ (by omega)
              rw [HY.out] at hst5
              have HBD5 := Lib.hid (hbd5.set_ hi hz1)
              obtain ⟨v5, hcU, _⟩ := hbd5.cell hi
              have hfz := hbd5.frozen (1 + Un.ix y)
              simp only [List.length_singleton] at hcU HBD5
              clear hbd5
              generalize Un.ix y = i at *
              have hi0 : (0 : Int) ≤ (i : Int) := by omega
              have hi1 : (i : Int) < 48 := by omega
              go_wp2
              go_region
              go_wp2
              refine bodyPost_ret (results_none rfl _ _ _) rfl ?_
              exact EqD.ok (only_drew (only_set hw5 _ _)) HBD5.out hst5.out
            · have hst5 := Lib.hid (hst.out (by rw [HY.out]; exact hyes rfl))
              clear hbk5 hyes hno hos5
              go_wp2
              exact ⟨rfl, EqD.no hw5 hst5.out⟩
        · cases hy0 : decide (y < 0)
          · have hst := Lib.hid (fun ho => Un.step_occ (s := s) (t := t) HFA.out GD.out HW1.out HW2.out (hd_neg HX.out hx0) (hd_sym HY.out (by simpa using hy0)) ho HE1.out HE2.out)
            have hsb := Lib.hid (fun ho => Un.step_bind (s := s) (t := t) HFA.out GD.out HW1.out HW2.out (hd_neg HX.out hx0) (HF1.out (hd_neg HX.out hx0)) ho HE1.out HE2.out)
            have hvar : x < 0 := by simpa using hx0
            have hy0' : decide (0 ≤ y) = true := by simpa using hy0
            go_wp2
            go_quiet (fail)
            go_wp2
            go_quiet (fail)
            go_wp2_with fail
            refine (occurs_any f U _ w0 B σ rk GD.out x hvar (by rw [← HX.out]; exact HF1.out (hd_neg HX.out hx0)) 48 u2 _ _ (fun _ => false) _ (Un.un_bd _) hz2 hne2 (wt_in HW2.out) (hbd2.below ((below_drewN (Below.refl _ _) _).alloc (Nat.le_refl _) _)) (ho2.trans (Only.of ((below_drewN (Below.refl _ _) _).alloc (Nat.le_refl _) _))) ho2.size hU (seen_new _ _)).mono ?_
            rintro e w5 ⟨r, S5, rfl, hos5, hbk5, hyes, hno⟩
            have hbd5 := (hbd2.below ((below_drewN (Below.refl _ _) _).alloc (Nat.le_refl _) _)).only hos5 (by have := ho2.size; omega)
            have ho5 := only_far (ho2.trans (Only.of ((below_drewN (Below.refl _ _) _).alloc (Nat.le_refl _) _))) hos5 ho2.size
            have hw5 := only_far (hw1.trans (Only.of ((below_drewN (Below.refl _ _) _).alloc (Nat.le_refl _) _))) hos5 hw1.size
            cases r
            · have hno' := Un.occ_no GD.out hvar (hno rfl).1 (hno rfl).2
              have hst5 := Lib.hid (hsb.out (by rw [HX.out]; exact hno'))
              clear hbk5 hyes hno hos5 hno' hbd2 hc1 hc2
              have hc5 := sv_head ri1 hg1 ho5 p1
              rw [HX.out] at hc5
              have hi : Un.ix x < 48 := by have := (HW1.out).ix (hd_neg HX.out hx0); rw [HX.out] at this; exact this
              have e1 : IntKind.i64.wrap (-1 - x) = (Un.ix x : Int) := by have := Un.ix_neg hvar; rw [this]; exact IntWalk.i64_in _ (by omega)
              rw [HX.out] at hst5
              have HBD5 := Lib.hid (hbd5.set_ hi hz2)
              obtain ⟨v5, hcU, _⟩ := hbd5.cell hi
              have hfz := hbd5.frozen (1 + Un.ix x)
              simp only [List.length_singleton] at hcU HBD5
              clear hbd5
              generalize Un.ix x = i at *
              have hi0 : (0 : Int) ≤ (i : Int) := by omega
              have hi1 : (i : Int) < 48 := by omega
              go_wp2
              go_region
              go_wp2
              refine bodyPost_ret (results_none rfl _ _ _) rfl ?_
              exact EqD.ok (only_drew (only_set hw5 _ _)) HBD5.out hst5.out
            · have hst5 := Lib.hid (hst.out (by rw [HX.out]; exact hyes rfl))
              clear hbk5 hyes hno hos5
              go_wp2
              exact ⟨rfl, EqD.no hw5 hst5.out⟩
          · cases hyx0 : decide (y < x)
            · have hvar : x < 0 := by simpa using hx0
              have hfr := Un.fresh_var GD.out (x := x) (y := y) (by simpa using hy0) (by rw [← HY.out]; exact HF2.out (hd_neg HY.out hy0)) hxy
              have hev : u2 = [y] := by rw [← HY.out]; exact Un.var_eq HFA.out HW2.out (hd_neg HY.out hy0)
              have hst5 := Lib.hid (Un.step_bind (s := s) (t := t) HFA.out GD.out HW1.out HW2.out (hd_neg HX.out hx0) (HF1.out (hd_neg HX.out hx0)) (by rw [HX.out, hev]; exact hfr) HE1.out HE2.out)
              have hbd5 := hbd2
              have hx0' : decide (0 ≤ x) = false := by simpa using hx0
              have hy0' : decide (0 ≤ y) = false := by simpa using hy0
              clear hbd2 hfr hev
              have hi : Un.ix x < 48 := by have := (HW1.out).ix (hd_neg HX.out hx0); rw [HX.out] at this; exact this
              have e1 : IntKind.i64.wrap (-1 - x) = (Un.ix x : Int) := by have := Un.ix_neg hvar; rw [this]; exact IntWalk.i64_in _ (by omega)
              rw [HX.out] at hst5
              have HBD5 := Lib.hid (hbd5.set_ hi hz2)
              obtain ⟨v5, hcU, _⟩ := hbd5.cell hi
              have hfz := hbd5.frozen (1 + Un.ix x)
              simp only [List.length_singleton] at hcU HBD5
              clear hbd5
              generalize Un.ix x = i at *
              have hi0 : (0 : Int) ≤ (i : Int) := by omega
              have hi1 : (i : Int) < 48 := by omega
              go_wp2
              go_quiet (fail)
              go_wp2
              go_quiet (fail)
              go_wp2
              go_region
              go_wp2
              refine bodyPost_ret (results_none rfl _ _ _) rfl ?_
              exact EqD.ok (only_set (only_drewN hw1 _) _ _) HBD5.out hst5.out
            · have hvar : y < 0 := by simpa using hy0
              have hfr := Un.fresh_var GD.out (x := y) (y := x) (by simpa using hx0) (by rw [← HX.out]; exact HF1.out (hd_neg HX.out hx0)) hyx
              have hev : u1 = [x] := by rw [← HX.out]; exact Un.var_eq HFA.out HW1.out (hd_neg HX.out hx0)
              have hst5 := Lib.hid ((Un.step_bind (s := t) (t := s) HFA.out GD.out HW2.out HW1.out (hd_neg HY.out hy0) (HF2.out (hd_neg HY.out hy0)) (by rw [HY.out, hev]; exact hfr) HE2.out HE1.out).swap)
              have hbd5 := hbd2
              have hx0' : decide (0 ≤ x) = false := by simpa using hx0
              have hy0' : decide (0 ≤ y) = false := by simpa using hy0
              clear hbd2 hfr hev
              have hi : Un.ix y < 48 := by have := (HW2.out).ix (hd_neg HY.out hy0); rw [HY.out] at this; exact this
              have e1 : IntKind.i64.wrap (-1 - y) = (Un.ix y : Int) := by have := Un.ix_neg hvar; rw [this]; exact IntWalk.i64_in _ (by omega)
              rw [HY.out] at hst5
              have HBD5 := Lib.hid (hbd5.set_ hi hz1)
              obtain ⟨v5, hcU, _⟩ := hbd5.cell hi
              have hfz := hbd5.frozen (1 + Un.ix y)
              simp only [List.length_singleton] at hcU HBD5
              clear hbd5
              generalize Un.ix y = i at *
              have hi0 : (0 : Int) ≤ (i : Int) := by omega
              have hi1 : (i : Int) < 48 := by omega
              go_wp2
              go_quiet (fail)
              go_wp2
              go_quiet (fail)
              go_wp2
              go_region
              go_wp2
              refine bodyPost_ret (results_none rfl _ _ _) rfl ?_
              exact EqD.ok (only_set (only_drewN hw1 _) _ _) HBD5.out hst5.out
end Go.Proofs.Ytcjgcopkeeiicaa
/-! Contracts: the program's solver, with its panic and its recovery. -/

namespace Go.Proofs.Ytcjgcopkeeiicaa
open Go.RowKit
set_option linter.unusedVariables false
set_option linter.unusedSimpArgs false

set_option maxRecDepth 20000 in
theorem catch_clash (p : Addr) (b : Bool) (older : List PanicEntry) (w : World) (hc : w.cell? p = some (.bool b)) (hz : w.frozen? p = false) (hp : p.block < w.heap.size) :
    CallsD Try.prog 74 #[.pointer (some p)] (.panicking ({ v := .iface 103 (.agg #[]), recovered := false } :: older)) w fun e u' w' =>
      e = .returned (.tuple #[]) ∧ u' = .panicking ({ v := .iface 103 (.agg #[]), recovered := true } :: older) ∧ w' = (w.alloc (.cells #[] 103)).setCell p (.bool false) := by
  refine callsD_of_wpS Try.func74 rfl fun c₀ cs hu => ?_
  apply wpS_seq
  apply wpS_region
  simp [wpOpsS, go_sem, recoverD, hu, Try.ntmps74, Exit.thenS]
  refine wpS_of_wp ?_
  simp only [Array.replicate, List.replicate, List.setIfInBounds_toArray, List.set_cons_zero, List.set_cons_succ, List.append_toArray, List.cons_append, List.nil_append]
  have hta : ∀ w : World, (Instr.typeAssert (.iface 103 (.agg #[])) 20 103 true).run Try.prog w = .ok (.tuple #[.agg #[], .bool true]) w := fun _ => by kernel_rfl
  have hz2 : (w.alloc (.cells #[] 103)).frozen? p = false := (((Below.refl w.heap.size w).alloc (Nat.le_refl _) _).frozen hp).trans hz
  have hc2 : (w.alloc (.cells #[] 103)).cell? p = some (.bool b) := (((Below.refl w.heap.size w).alloc (Nat.le_refl _) _).cell hp).trans hc
  go_wp2
  cases c₀
  simp_all [bodyPostS, results, Try.results74]
set_option maxRecDepth 20000 in
theorem catch_none (p : Addr) (w : World) :
    CallsD Try.prog 74 #[.pointer (some p)] .returning w fun e u' w' => e = .returned (.tuple #[]) ∧ u' = .returning ∧ w' = w := by
  refine callsD_of_wpS Try.func74 rfl fun c₀ cs hu => ?_
  apply wpS_seq
  apply wpS_region
  simp [wpOpsS, go_sem, recoverD, hu, Try.ntmps74, Exit.thenS]
  refine wpS_of_wp ?_
  go_wp2
  cases c₀
  simp_all [bodyPostS, results, Try.results74]
/-- How the solver ends. -/
def SolD (T : TypeId) (hd : List Value) (w0 w : World) (U : Nat) (f : Int → Int) (B : Un.Bd) (s t : List Int) (e : Ending) (w' : World) : Prop :=
  Only U (U + 1) w w' ∧ ((∃ B', e = .returned (.bool true) ∧ Bnd w0 w' U T hd B' ∧ Un.Step f B B' s t) ∨ (e = .returned (.bool false) ∧ Un.Clash f B s t))
theorem only_setNew {U : Nat} {w w' : World} (h : Only U (U + 1) w w') {p : Addr} (hp : w.heap.size ≤ p.block) (u : Value) : Only U (U + 1) w (w'.setCell p u) :=
  ⟨h.os, h.tape, h.output, by have := h.size; simpa [World.setCell] using this, fun k hk hd => (Below.heap_setCell w' p u k (by omega)).trans (h.block k hk hd)⟩
theorem Bnd.far {w0 w : World} {G : Nat} {T : TypeId} {hd : List Value} {B : Un.Bd} (h : Bnd w0 w G T hd B) {p : Addr} (hp : G ≠ p.block) (u : Value) : Bnd w0 (w.setCell p u) G T hd B := by
  obtain ⟨vs, hl, hk, hv⟩ := h
  exact ⟨vs, hl, hk.far hp u, hv⟩
set_option maxHeartbeats 1000000 in
set_option maxRecDepth 20000 in
theorem solve_any (f : Int → Int) (U : Nat) (w0 : World) (A : Option Addr) (n c : Nat) (xs : List Int) (hf : f = Pl.nxt xs) (hsg : SG w0 U A n xs) (hs : Pl.sigOk xs = true) (hU : U < w0.heap.size)
    (B : Un.Bd) (σ : Int → List Int) (rk : Int → Nat) (s t : List Int) (v v' : Value) (w : World) (gd : Un.Good f 48 B σ rk) (hv : SV w0 U v s) (hv' : SV w0 U v' t) (h1 : Un.WT f s) (h2 : Un.WT f t)
    (hb : Bnd w0 w U 95 [.slice A n c] B) (ho : Only U (U + 1) w0 w) :
    Calls Try.prog 64 #[.pointer (some ⟨U, 0, none⟩), v, v'] w (SolD 95 [.slice A n c] w0 w U f B s t) := by
  have hmf : ∀ (fn : Fn) (first cap : Array Value) (w : World), (Instr.makeFunc fn first cap).run Try.prog w = .ok (.func fn first cap) w := fun _ _ _ _ => rfl
  have hsz := ho.size
  have HF := Lib.hid hf
  clear hf
  go_enter_defers Try.func64, Try.ntmps64
  go_wp2_with fail
  have hB0 : Below w.heap.size w (w.alloc (.cells #[.bool false] 4)) := (Below.refl _ _).alloc (Nat.le_refl _) _
  have bk : Blk (w.alloc (.cells #[.bool false] 4)) w.heap.size 4 #[.bool false] := Blk.new _ _ _
  refine (equate_any f U w0 A n c xs HF.out hsg hs hU _ _ B σ rk s t v v' _ gd rfl rfl hv hv' h1 h2 (hb.below hB0) (ho.trans (Only.of hB0))).mono ?_
  rintro e w2 ⟨ho2, ⟨B', rfl, hb2, hst⟩ | ⟨rfl, hcl⟩⟩
  · have bk2 : Blk w2 w.heap.size 4 #[.bool false] := (ho2.block _ bk.lt (by omega)).trans bk
    have hc2 := bk2.cell 0
    have hf2 := bk2.frozen 0
    have HST := Lib.hid hst
    have HB2 := Lib.hid hb2
    clear hst hb2 bk
    go_wp2
    refine leaves_cons (f := 74) (args := #[.pointer (some ⟨w.heap.size, 0, none⟩)]) (by simp) (by simp [go_sem]) ?_
    refine (catch_none ⟨w.heap.size, 0, none⟩ _).mono ?_
    rintro e u' w'' ⟨rfl, rfl, rfl⟩
    have hc3 := (bk2.set_ 0 (.bool true)).cell 0
    refine ⟨.bool true, by simp [results, Try.results64, go_sem, hc2], ?_⟩
    exact ⟨only_setNew ((Only.of hB0).trans ho2) (Nat.le_refl _) _, .inl ⟨B', rfl, HB2.out.far (by dsimp only; omega) _, HST.out⟩⟩
  · have bk2 : Blk w2 w.heap.size 4 #[.bool false] := (ho2.block _ bk.lt (by omega)).trans bk
    have hc2 := bk2.cell 0
    have hf2 := bk2.frozen 0
    have HCL := Lib.hid hcl
    clear hcl bk
    go_wp2
    refine leaves_cons (f := 74) (args := #[.pointer (some ⟨w.heap.size, 0, none⟩)]) (by simp) (by simp [go_sem]) ?_
    refine (catch_clash ⟨w.heap.size, 0, none⟩ false [] _ hc2 hf2 bk2.lt).mono ?_
    rintro e u' w'' ⟨rfl, rfl, rfl⟩
    have hc3 := ((bk2.alloc (.cells #[] 103)).set_ 0 (.bool false)).cell 0
    have hc3 : ((w2.alloc (.cells #[] 103)).setCell ⟨w.heap.size, 0, none⟩ (.bool false)).cell? ⟨w.heap.size, 0, none⟩ = some (.bool false) := hc3
    refine ⟨.bool false, by simp [results, Try.results64, go_sem, hc2, hc3], ?_⟩
    exact ⟨only_setNew (((Only.of hB0).trans ho2).trans (Only.of ((Below.refl _ _).alloc (Nat.le_refl _) _))) (Nat.le_refl _) _, .inr ⟨rfl, HCL.out⟩⟩
end Go.Proofs.Ytcjgcopkeeiicaa
