/- Contracts: rules that double a variable. -/
import Derived.Test.YtaeilbpgpchciaaSysC
import Derived.Test.YtaeilbpgpchciaaCnt
namespace Go.Proofs.Ytaeilbpgpchciaa
open Go.RowKit
set_option linter.unusedVariables false

/-- Among the first k numbers on the right there is a variable that stands there more often than on the left. -/
def duTo (l r : List Int) (k : Nat) : Bool := (List.range k).any fun i => decide (r.getD i 0 < 0) && decide (l.count (r.getD i 0) < r.count (r.getD i 0))
def doubles (t : List Int × List Int) : Bool := duTo t.1 t.2 t.2.length
theorem du_hit {l r : List Int} {k o : Nat} {v : Int} (hk : k < o) (hv : v = r.getD k 0) (h0 : v < 0) (h : l.count v < r.count v) : duTo l r o = true := by
  unfold duTo
  rw [List.any_eq_true]
  exact ⟨k, by simpa using hk, by rw [← hv]; simp [h0, h]⟩
theorem du_step {l r : List Int} {k : Nat} {v : Int} (hs : duTo l r k = false) (hv : v = r.getD k 0) (h : ¬ (v < 0 ∧ l.count v < r.count v)) : duTo l r (k + 1) = false := by
  unfold duTo at hs ⊢
  rw [List.range_succ, List.any_append, hs, ]
  simp only [List.any_cons, List.any_nil, Bool.or_false, Bool.false_or, ← hv, Bool.and_eq_false_iff, decide_eq_false_iff_not]
  by_cases h0 : v < 0
  · exact .inr fun h1 => h ⟨h0, h1⟩
  · exact .inl h0
set_option maxHeartbeats 4000000 in
set_option maxRecDepth 20000 in
theorem l6Doubles_any (B : Option Addr) (m d : Nat) (C : Option Addr) (o f : Nat) (l r : List Int) (w : World) (h : RI w B m l) (h' : RI w C o r) (hm : m ≤ 60) (ho : o ≤ 60) :
    Calls Try.prog 23 #[.agg #[.slice B m d, .slice C o f]] w fun e w' => e = .returned (.bool (doubles (l, r))) ∧ Below w.heap.size w w' := by
  have hlr := h'.1
  have HE : Hid (doubles (l, r) = duTo l r o) := Lib.hid (by unfold doubles; rw [← hlr])
  have hB0 : Below w.heap.size w (w.alloc (.cells #[.slice B m d, .slice C o f] 33)) := (Below.refl _ _).alloc (Nat.le_refl _) _
  have b0 : (w.alloc (.cells #[.slice B m d, .slice C o f] 33)).cell? ⟨w.heap.size, 0, none⟩ = some (.slice B m d) := by simp
  have b1 : (w.alloc (.cells #[.slice B m d, .slice C o f] 33)).cell? ⟨w.heap.size, 1, none⟩ = some (.slice C o f) := by simp
  go_enter Try.func23, Try.ntmps23
  go_wp2_with fail
  generalize w.alloc (.cells #[.slice B m d, .slice C o f] 33) = W0 at *
  go_loopw [3] (fun i wr => ∃ k : Nat, k ≤ o ∧ i = .int .i64 k ∧ Hid (duTo l r k = false) ∧ Below W0.heap.size W0 wr) (fun i _ => o - (intOf i).toNat)
  case atStart => exact ⟨0, Nat.zero_le _, rfl, Lib.hid rfl, Below.refl _ _⟩
  case round =>
    obtain ⟨k, hk, rfl, hso, hb⟩ := hrel
    have b0' := keepC hb b0
    have b1' := keepC hb b1
    have hBr := below_then hB0 hb hB0.size
    by_cases hlt : k < o
    · obtain ⟨g, off, v, rfl, hc, hv⟩ := (h'.below hBr).at_ hlt
      have hk0 : (0 : Int) ≤ k := by omega
      have hk1 : (k : Int) < o := by omega
      by_cases h0 : v < 0
      · have e0 : decide (v < 0) = true := by simpa using h0
        have c1 := List.count_le_length (a := v) (l := l)
        have c2 := List.count_le_length (a := v) (l := r)
        have hl1 := h.1
        by_cases hcn : l.count v < r.count v
        · have HS := Lib.hid (du_hit hlt hv.out h0 hcn)
          have e1 : decide (((l.count v : Nat) : Int) < ((r.count v : Nat) : Int)) = true := by simpa using hcn
          have e2 : ((l.count v : Nat) : Int) < ((r.count v : Nat) : Int) := by omega
          clear hv
          go_wp2_with fail
          go_region_held3 (fun w' => Below wr.heap.size wr w' ∧ w'.cell? ⟨w.heap.size, 0, none⟩ = some (.slice B m d) ∧ w'.cell? ⟨w.heap.size, 1, none⟩ = some (.slice (some ⟨g, off, none⟩) o f) ∧ w'.cell? ⟨g, off + k, none⟩ = some (.int .i64 v))
            (first | exact ⟨(Below.refl _ _).drew, b0', b1', hc⟩ | exact keepS3 hb1 (by assumption))
            ((first | (go_at_call 39; with_reducible (show Calls Try.prog 39 #[.slice (some ⟨g, off, none⟩) o f, .int .i64 v] _ _); refine (l1Count_any _ o f r v _ ?_ (by omega)).mono ?_; exact riS (h'.below hBr) (by assumption); rintro e w1 ⟨rfl, hb1⟩) | (go_at_call 39; with_reducible (show Calls Try.prog 39 #[.slice B m d, .int .i64 v] _ _); refine (l1Count_any B m d l v _ ?_ (by omega)).mono ?_; exact riS (h.below hBr) (by assumption); rintro e w1 ⟨rfl, hb1⟩)))
          rename_i hS
          have hb2 := hS.1
          clear hS
          go_wp2_with fail
          go_ret
          exact ⟨ret_bool (by rw [HE.out, HS.out]), below_then hBr hb2 hBr.size⟩
        · have HS := Lib.hid (du_step hso.out hv.out (fun hh => hcn hh.2))
          have e1 : decide (((l.count v : Nat) : Int) < ((r.count v : Nat) : Int)) = false := by simpa using hcn
          have e2 : ¬ ((l.count v : Nat) : Int) < ((r.count v : Nat) : Int) := by omega
          clear hv
          go_wp2_with fail
          go_region_held3 (fun w' => Below wr.heap.size wr w' ∧ w'.cell? ⟨w.heap.size, 0, none⟩ = some (.slice B m d) ∧ w'.cell? ⟨w.heap.size, 1, none⟩ = some (.slice (some ⟨g, off, none⟩) o f) ∧ w'.cell? ⟨g, off + k, none⟩ = some (.int .i64 v))
            (first | exact ⟨(Below.refl _ _).drew, b0', b1', hc⟩ | exact keepS3 hb1 (by assumption))
            ((first | (go_at_call 39; with_reducible (show Calls Try.prog 39 #[.slice (some ⟨g, off, none⟩) o f, .int .i64 v] _ _); refine (l1Count_any _ o f r v _ ?_ (by omega)).mono ?_; exact riS (h'.below hBr) (by assumption); rintro e w1 ⟨rfl, hb1⟩) | (go_at_call 39; with_reducible (show Calls Try.prog 39 #[.slice B m d, .int .i64 v] _ _); refine (l1Count_any B m d l v _ ?_ (by omega)).mono ?_; exact riS (h.below hBr) (by assumption); rintro e w1 ⟨rfl, hb1⟩)))
          rename_i hS
          have hb2 := hS.1
          clear hS
          go_wp2_with fail
          go_roundw
          case rel => exact ⟨k + 1, by omega, by go_num, HS, below_then hb hb2 hb.size⟩
          case measure => simp [intOf]; omega
      · have e0 : decide (v < 0) = false := by simpa using h0
        have HS := Lib.hid (du_step hso.out hv.out (fun hh => h0 hh.1))
        clear hv
        go_wp2_with fail
        go_quiet (fail)
        go_wp2_with fail
        go_roundw
        case rel => exact ⟨k + 1, by omega, by go_num, HS, below_drewN hb _⟩
        case measure => simp [intOf]; omega
    · have hkm : k = o := by omega
      subst hkm
      go_wp2_with fail
      go_ret
      exact ⟨ret_bool (by rw [HE.out, hso.out]), hBr⟩
set_option maxHeartbeats 4000000 in
set_option maxRecDepth 20000 in
theorem duplicating_any (B : Option Addr) (m d : Nat) (C : Option Addr) (o f : Nat) (l r : List Int) (w : World) (h : RI w B m l) (h' : RI w C o r) (hm : m ≤ 60) (ho : o ≤ 60) :
    Calls Try.prog 20 #[.agg #[.slice B m d, .slice C o f]] w fun e w' => e = .returned (.bool (doubles (l, r))) ∧ Below w.heap.size w w' := by
  have hlr := h'.1
  have HE : Hid (doubles (l, r) = duTo l r o) := Lib.hid (by unfold doubles; rw [← hlr])
  have hB0 : Below w.heap.size w (w.alloc (.cells #[.slice B m d, .slice C o f] 33)) := (Below.refl _ _).alloc (Nat.le_refl _) _
  have b0 : (w.alloc (.cells #[.slice B m d, .slice C o f] 33)).cell? ⟨w.heap.size, 0, none⟩ = some (.slice B m d) := by simp
  have b1 : (w.alloc (.cells #[.slice B m d, .slice C o f] 33)).cell? ⟨w.heap.size, 1, none⟩ = some (.slice C o f) := by simp
  go_enter Try.func20, Try.ntmps20
  go_wp2_with fail
  generalize w.alloc (.cells #[.slice B m d, .slice C o f] 33) = W0 at *
  go_loopw [8, 4] (fun i _ wr => ∃ k : Nat, k ≤ o ∧ i = .int .i64 k ∧ Hid (duTo l r k = false) ∧ Below W0.heap.size W0 wr) (fun i _ _ => o - (intOf i).toNat)
  case atStart => exact ⟨0, Nat.zero_le _, rfl, Lib.hid rfl, Below.refl _ _⟩
  case round =>
    obtain ⟨k, hk, rfl, hso, hb⟩ := hrel
    have b0' := keepC hb b0
    have b1' := keepC hb b1
    have hBr := below_then hB0 hb hB0.size
    by_cases hlt : k < o
    · obtain ⟨g, off, v, rfl, hc, hv⟩ := (h'.below hBr).at_ hlt
      have hk0 : (0 : Int) ≤ k := by omega
      have hk1 : (k : Int) < o := by omega
      by_cases h0 : v < 0
      · have e0 : decide (v < 0) = true := by simpa using h0
        have c1 := List.count_le_length (a := v) (l := l)
        have c2 := List.count_le_length (a := v) (l := r)
        have hl1 := h.1
        by_cases hcn : l.count v < r.count v
        · have HS := Lib.hid (du_hit hlt hv.out h0 hcn)
          have e1 : decide (((l.count v : Nat) : Int) < ((r.count v : Nat) : Int)) = true := by simpa using hcn
          have e2 : ((l.count v : Nat) : Int) < ((r.count v : Nat) : Int) := by omega
          clear hv
          go_wp2_with fail
          go_region_held3 (fun w' => Below wr.heap.size wr w' ∧ w'.cell? ⟨w.heap.size, 0, none⟩ = some (.slice B m d) ∧ w'.cell? ⟨w.heap.size, 1, none⟩ = some (.slice (some ⟨g, off, none⟩) o f) ∧ w'.cell? ⟨g, off + k, none⟩ = some (.int .i64 v))
            (first | exact ⟨(Below.refl _ _).drew, b0', b1', hc⟩ | exact keepS3 hb1 (by assumption))
            ((first | (go_at_call 38; with_reducible (show Calls Try.prog 38 #[.slice (some ⟨g, off, none⟩) o f, .int .i64 v] _ _); refine (countIn_any _ o f r v _ ?_ (by omega)).mono ?_; exact riS (h'.below hBr) (by assumption); rintro e w1 ⟨rfl, hb1⟩) | (go_at_call 38; with_reducible (show Calls Try.prog 38 #[.slice B m d, .int .i64 v] _ _); refine (countIn_any B m d l v _ ?_ (by omega)).mono ?_; exact riS (h.below hBr) (by assumption); rintro e w1 ⟨rfl, hb1⟩)))
          rename_i hS
          have hb2 := hS.1
          clear hS
          go_wp2_with fail
          go_ret
          exact ⟨ret_bool (by rw [HE.out, HS.out]), below_then hBr hb2 hBr.size⟩
        · have HS := Lib.hid (du_step hso.out hv.out (fun hh => hcn hh.2))
          have e1 : decide (((l.count v : Nat) : Int) < ((r.count v : Nat) : Int)) = false := by simpa using hcn
          have e2 : ¬ ((l.count v : Nat) : Int) < ((r.count v : Nat) : Int) := by omega
          clear hv
          go_wp2_with fail
          go_region_held3 (fun w' => Below wr.heap.size wr w' ∧ w'.cell? ⟨w.heap.size, 0, none⟩ = some (.slice B m d) ∧ w'.cell? ⟨w.heap.size, 1, none⟩ = some (.slice (some ⟨g, off, none⟩) o f) ∧ w'.cell? ⟨g, off + k, none⟩ = some (.int .i64 v))
            (first | exact ⟨(Below.refl _ _).drew, b0', b1', hc⟩ | exact keepS3 hb1 (by assumption))
            ((first | (go_at_call 38; with_reducible (show Calls Try.prog 38 #[.slice (some ⟨g, off, none⟩) o f, .int .i64 v] _ _); refine (countIn_any _ o f r v _ ?_ (by omega)).mono ?_; exact riS (h'.below hBr) (by assumption); rintro e w1 ⟨rfl, hb1⟩) | (go_at_call 38; with_reducible (show Calls Try.prog 38 #[.slice B m d, .int .i64 v] _ _); refine (countIn_any B m d l v _ ?_ (by omega)).mono ?_; exact riS (h.below hBr) (by assumption); rintro e w1 ⟨rfl, hb1⟩)))
          rename_i hS
          have hb2 := hS.1
          clear hS
          go_wp2_with fail
          go_roundw
          case rel => exact ⟨k + 1, by omega, by go_num, HS, below_then hb hb2 hb.size⟩
          case measure => simp [intOf]; omega
      · have e0 : decide (v < 0) = false := by simpa using h0
        have HS := Lib.hid (du_step hso.out hv.out (fun hh => h0 hh.1))
        clear hv
        go_wp2_with fail
        go_quiet (fail)
        go_wp2_with fail
        go_roundw
        case rel => exact ⟨k + 1, by omega, by go_num, HS, below_drewN hb _⟩
        case measure => simp [intOf]; omega
    · have hkm : k = o := by omega
      subst hkm
      go_wp2_with fail
      go_ret
      exact ⟨ret_bool (by rw [HE.out, hso.out]), hBr⟩
set_option maxHeartbeats 1000000 in
set_option maxRecDepth 20000 in
theorem indexDup_any (p : List Int × List Int → Bool) (A : Option Addr) (n c : Nat) (x : List (List Int × List Int)) (w : World) (h : RU w A n x) (hn : n ≤ 1048576)
    (hf : ∀ (W : World) (k : Nat) (B : Option Addr) (m d : Nat) (C : Option Addr) (o f : Nat) (l r : List Int), k < x.length → (l, r) = x.getD k ([], []) → RI W B m l → RI W C o r → Calls Try.prog 20 #[.agg #[.slice B m d, .slice C o f]] W fun e w' => e = .returned (.bool (p (l, r))) ∧ Below W.heap.size W w') :
    Calls Try.prog 37 #[.slice A n c, .func (.func 20) #[] #[]] w fun e w' => ∃ j : Int, e = .returned (.int .i64 j) ∧ decide (0 ≤ j) = x.any p ∧ Below w.heap.size w w' := by
  have hl := h.1
  have HF := Lib.hid hf
  clear hf
  go_enter Try.func37, Try.ntmps37
  go_wp2_with fail
  go_loopw [8, 5] (fun i _ wr => ∃ k : Nat, k ≤ n ∧ i = .int .i64 k ∧ Hid ((x.take k).any p = false) ∧ Below w.heap.size w wr) (fun i _ _ => n - (intOf i).toNat)
  case atStart => exact ⟨0, Nat.zero_le _, rfl, Lib.hid (by simp), Below.refl _ _⟩
  case round =>
    obtain ⟨k, hk, rfl, hso, hb⟩ := hrel
    by_cases hlt : k < n
    · obtain ⟨g, off, L, ml, dl, R, mr, dr, l, r, rfl, hcl, hcr, hL, hR, _, _, _, _, hx⟩ := (h.below hb).at_ hlt
      cases hT : p (l, r)
      · have HS := Lib.hid (any_step hso.out (by omega) hx.out hT)
        have HT := Lib.hid hT
        have HC := Lib.hid (HF.out wr k L ml dl R mr dr l r (by omega) hx.out hL hR)
        clear hx hT
        go_wp2_with fail
        refine HC.out.mono ?_
        rintro e w1 ⟨rfl, hb1⟩
        rw [HT.out]
        go_wp2_with fail
        go_roundw
        case rel => exact ⟨k + 1, by omega, by go_num, HS, below_then hb hb1 hb.size⟩
        case measure => simp [intOf]; omega
      · have HS := Lib.hid (any_hit (p := p) (by omega) hx.out hT)
        have HT := Lib.hid hT
        have HC := Lib.hid (HF.out wr k L ml dl R mr dr l r (by omega) hx.out hL hR)
        clear hx hT
        go_wp2_with fail
        refine HC.out.mono ?_
        rintro e w1 ⟨rfl, hb1⟩
        rw [HT.out]
        go_wp2_with fail
        go_ret
        exact ⟨k, rfl, by rw [HS.out]; simp, below_then hb hb1 hb.size⟩
    · have hkn : k = n := by omega
      subst hkn
      have HS := Lib.hid (any_end hl hso.out)
      go_wp2_with fail
      go_ret
      exact ⟨-1, rfl, by rw [HS.out]; rfl, hb⟩
set_option maxHeartbeats 400000 in
theorem containsDup_any (p : List Int × List Int → Bool) (A : Option Addr) (n c : Nat) (x : List (List Int × List Int)) (w : World) (h : RU w A n x) (hn : n ≤ 1048576)
    (hf : ∀ (W : World) (k : Nat) (B : Option Addr) (m d : Nat) (C : Option Addr) (o f : Nat) (l r : List Int), k < x.length → (l, r) = x.getD k ([], []) → RI W B m l → RI W C o r → Calls Try.prog 20 #[.agg #[.slice B m d, .slice C o f]] W fun e w' => e = .returned (.bool (p (l, r))) ∧ Below W.heap.size W w') :
    Calls Try.prog 19 #[.slice A n c, .func (.func 20) #[] #[]] w fun e w' => e = .returned (.bool (x.any p)) ∧ Below w.heap.size w w' := by
  have HF := Lib.hid hf
  clear hf
  go_enter Try.func19, Try.ntmps19
  go_wp2_with fail
  refine (indexDup_any p A n c x _ h hn HF.out).mono ?_
  rintro e w1 ⟨j, rfl, hj, hb1⟩
  have HJ := Lib.hid hj
  clear hj
  go_wp2_with fail
  go_ret
  exact ⟨ret_bool HJ.out, hb1⟩
def duplicatingIn (xs : List Int) (x : List (List Int × List Int)) : Bool := systemOk xs x && x.any doubles
theorem duplicatingP_no {xs : List Int} {x : List (List Int × List Int)} (h : systemOk xs x = false) : duplicatingIn xs x = false := by unfold duplicatingIn; rw [h]; rfl
theorem duplicatingP_yes {xs : List Int} {x : List (List Int × List Int)} (h : systemOk xs x = true) : duplicatingIn xs x = x.any doubles := by unfold duplicatingIn; rw [h]; rfl
set_option maxHeartbeats 1000000 in
theorem I_DuplicatingIn (A : Option Addr) (n c : Nat) (xs : List Int) (B : Option Addr) (m d : Nat) (x : List (List Int × List Int)) (w : World) (h : RI w A n xs) (h' : RU w B m x) (hs : n + wtU x ≤ 1048576) :
    Calls Try.prog 7 #[.agg #[.slice A n c, .slice B m d]] w fun e w' => e = .returned (.bool (duplicatingIn xs x)) ∧ Below w.heap.size w w' := by
  have hl := h'.1
  have hm1 : m ≤ 1048576 := by unfold wtU at hs; omega
  cases hq : systemOk xs x
  · have HE := Lib.hid (duplicatingP_no hq)
    have HQ := Lib.hid hq
    go_enter Try.func7, Try.ntmps7
    go_wp2_with fail
    refine (implSystemOk_any A n c xs B m d x _ (h.alloc _) (h'.alloc _) hs).mono ?_
    rintro e w1 ⟨rfl, hb1⟩
    rw [HQ.out]
    have hB : Below w.heap.size w w1 := below_then ((Below.refl _ _).alloc (Nat.le_refl _) _) hb1 (by simp)
    go_wp2_with fail
    go_ret
    exact ⟨ret_bool (by exact HE.out.symm), hB⟩
  · have HE := Lib.hid (duplicatingP_yes hq)
    have HQ := Lib.hid hq
    have HF := Lib.hid (fun (W : World) (k : Nat) (B : Option Addr) (m d : Nat) (C : Option Addr) (o f : Nat) (l r : List Int) (hk : k < x.length) (ht : (l, r) = x.getD k ([], [])) (h1 : RI W B m l) (h2 : RI W C o r) => duplicating_any B m d C o f l r W h1 h2 (by have := (rule_lens hq hk ht).1; rw [h1.1] at this; exact this.2) (by have := (rule_lens hq hk ht).2.1; rw [h2.1] at this; exact this.2))
    clear hq
    go_enter Try.func7, Try.ntmps7
    go_wp2_with fail
    refine (implSystemOk_any A n c xs B m d x _ (h.alloc _) (h'.alloc _) hs).mono ?_
    rintro e w1 ⟨rfl, hb1⟩
    rw [HQ.out]
    have hB : Below w.heap.size w w1 := below_then ((Below.refl _ _).alloc (Nat.le_refl _) _) hb1 (by simp)
    have by0 : w1.cell? ⟨w.heap.size, 1, none⟩ = some (.slice B m d) := (hb1.cell (by simp)).trans (by simp)
    clear hb1
    go_wp2_with fail
    refine (containsDup_any doubles B m d x _ (h'.below hB) hm1 HF.out).mono ?_
    rintro e w2 ⟨rfl, hb2⟩
    replace hB := below_then hB hb2 hB.size
    go_wp2_with fail
    go_ret
    exact ⟨ret_bool (by exact HE.out.symm), hB⟩
set_option maxHeartbeats 2000000 in
theorem S_DuplicatingIn (A : Option Addr) (n c : Nat) (xs : List Int) (B : Option Addr) (m d : Nat) (x : List (List Int × List Int)) (w : World) (h : RI w A n xs) (h' : RU w B m x) (hs : n + wtU x ≤ 1048576) :
    Calls Try.prog 10 #[.agg #[.slice A n c, .slice B m d]] w fun e w' => e = .returned (.bool (duplicatingIn xs x)) ∧ Below w.heap.size w w' := by
  have hl := h'.1
  have hm1 : m ≤ 1048576 := by unfold wtU at hs; omega
  have hB0 : Below w.heap.size w (w.alloc (.cells #[.slice A n c, .slice B m d] 29)) := (Below.refl _ _).alloc (Nat.le_refl _) _
  have bx : (w.alloc (.cells #[.slice A n c, .slice B m d] 29)).cell? ⟨w.heap.size, 0, none⟩ = some (.slice A n c) := by simp
  have by0 : (w.alloc (.cells #[.slice A n c, .slice B m d] 29)).cell? ⟨w.heap.size, 1, none⟩ = some (.slice B m d) := by simp
  have HQ : Hid (∀ b, systemOk xs x = b → True) := Lib.hid (fun _ _ => trivial)
  have HNO : Hid (systemOk xs x = false → duplicatingIn xs x = false) := Lib.hid duplicatingP_no
  have HM : Hid (m = 0 → duplicatingIn xs x = false) := Lib.hid (fun h0 => by
    have : x = [] := List.eq_nil_of_length_eq_zero (by omega)
    subst this; unfold duplicatingIn; simp)
  go_enter Try.func10, Try.ntmps10
  go_wp2_with fail
  generalize w.alloc (.cells #[.slice A n c, .slice B m d] 29) = W0 at *
  go_loopw [3] (fun i wr => ∃ k : Nat, k ≤ m ∧ i = .int .i64 k ∧ Hid (0 < k → systemOk xs x = true) ∧ Hid ((x.take k).any doubles = false) ∧ Below W0.heap.size W0 wr) (fun i _ => m - (intOf i).toNat)
  case atStart => exact ⟨0, Nat.zero_le _, rfl, Lib.hid (fun h => absurd h (by omega)), Lib.hid (by simp), Below.refl _ _⟩
  case round =>
    obtain ⟨k, hk, rfl, hok, hso, hb⟩ := hrel
    have bx' := keepC hb bx
    have by0' := keepC hb by0
    have hBr := below_then hB0 hb hB0.size
    by_cases hlt : k < m
    · have hlt' : (k : Int) < m := by omega
      cases hq : systemOk xs x
      · have HS := Lib.hid hq
        have HC := Lib.hid (HNO.out hq)
        clear hok hq
        go_wp2_with fail
        refine (specSystemOk_any A n c xs B m d x _ (h.below hBr) (h'.below hBr) hs).mono ?_
        rintro e w1 ⟨rfl, hb1⟩
        rw [HS.out]
        go_wp2_with fail
        go_ret
        exact ⟨ret_bool HC.out.symm, below_then hBr hb1 hBr.size⟩
      · obtain ⟨g, off, L, ml, dl, R, mr, dr, l, r, rfl, hcl, hcr, hL, hR, _, _, _, _, hx⟩ := (h'.below hBr).at_ hlt
        have hrl := rule_lens hq (by omega) hx.out
        rw [hR.1, hL.1] at hrl
        have hr1 := hrl.2.1
        have hl1 := hrl.1
        clear hrl
        have HY := Lib.hid (duplicatingP_yes hq)
        have HS := Lib.hid hq
        cases hd0 : doubles (l, r)
        · have HD := Lib.hid hd0
          have HA := Lib.hid (any_step (p := doubles) hso.out (by omega) hx.out hd0)
          clear hok hq hx hd0
          go_wp2_with fail
          refine (specSystemOk_any A n c xs _ m d x _ (h.below hBr) (h'.below hBr) hs).mono ?_
          rintro e w1 ⟨rfl, hb1⟩
          rw [HS.out]
          replace by0' := keepC hb1 by0'
          replace hcl := keepC hb1 hcl
          replace hcr := keepC hb1 hcr
          have hB1 := below_then hb hb1 hb.size
          replace hL := hL.below hb1
          replace hR := hR.below hb1
          clear hb1
          go_wp2_with fail
          refine (l6Doubles_any L ml dl R mr dr l r _ hL hR (by omega) (by omega)).mono ?_
          rintro e w2 ⟨rfl, hb2⟩
          rw [HD.out]
          replace hB1 := below_then hB1 hb2 hB1.size
          clear hb2
          go_wp2_with fail
          go_roundw
          case rel => exact ⟨k + 1, by omega, by go_num, (by first | exact Lib.hid (fun _ => HS.out) | exact Lib.hid (fun _ => trivial) | exact Lib.hid trivial), HA, hB1⟩
          case measure => simp [intOf]; omega
        · have HD := Lib.hid hd0
          have HA := Lib.hid (any_hit (p := doubles) (by omega) hx.out hd0)
          clear hok hq hx hd0
          go_wp2_with fail
          refine (specSystemOk_any A n c xs _ m d x _ (h.below hBr) (h'.below hBr) hs).mono ?_
          rintro e w1 ⟨rfl, hb1⟩
          rw [HS.out]
          replace by0' := keepC hb1 by0'
          replace hcl := keepC hb1 hcl
          replace hcr := keepC hb1 hcr
          have hB1 := below_then hBr hb1 hBr.size
          replace hL := hL.below hb1
          replace hR := hR.below hb1
          clear hb1
          go_wp2_with fail
          refine (l6Doubles_any L ml dl R mr dr l r _ hL hR (by omega) (by omega)).mono ?_
          rintro e w2 ⟨rfl, hb2⟩
          rw [HD.out]
          replace hB1 := below_then hB1 hb2 hB1.size
          clear hb2
          go_wp2_with fail
          go_ret
          exact ⟨ret_bool (by rw [HY.out, HA.out]), hB1⟩
    · have hkm : k = m := by omega
      have HC : Hid (duplicatingIn xs x = false) := Lib.hid (by
        by_cases h0 : m = 0
        · exact HM.out h0
        · rw [duplicatingP_yes (hok.out (by omega))]
          exact any_end hl (by rw [← hkm]; exact hso.out))
      have hlt' : ¬ (k : Int) < m := by omega
      clear hok
      go_wp2_with fail
      go_ret
      exact ⟨ret_bool HC.out.symm, hBr⟩
end Go.Proofs.Ytaeilbpgpchciaa
