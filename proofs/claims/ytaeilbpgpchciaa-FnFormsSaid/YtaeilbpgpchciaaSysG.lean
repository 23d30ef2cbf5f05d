/- Contracts: does a symbol stand at the head of a left side? -/
import Derived.Test.YtaeilbpgpchciaaSysC
namespace Go.Proofs.Ytaeilbpgpchciaa
open Go.RowKit
set_option linter.unusedVariables false

/-- Does the rule's left side begin with v? -/
def headIs (v : Int) (t : List Int × List Int) : Bool := decide (t.1.getD 0 0 = v)
def isHd (x : List (List Int × List Int)) (v : Int) : Bool := x.any (headIs v)
/-- Among the places 1 .. q-1 of l there is a head. -/
def badTo (x : List (List Int × List Int)) (l : List Int) (q : Nat) : Bool := (List.range q).any fun i => decide (1 ≤ i) && isHd x (l.getD i 0)
def badL (x : List (List Int × List Int)) (t : List Int × List Int) : Bool := badTo x t.1 t.1.length
theorem bad_one (x : List (List Int × List Int)) (l : List Int) : badTo x l 1 = false := by unfold badTo; simp
theorem bad_hit {x : List (List Int × List Int)} {l r : List Int} {q m : Nat} {v : Int} (hl : l.length = m) (hq : q < m) (h1 : 1 ≤ q) (hv : v = l.getD q 0) (h : isHd x v = true) : badL x (l, r) = true := by
  unfold badL badTo
  rw [List.any_eq_true]
  refine ⟨q, by simp; omega, ?_⟩
  rw [← hv, h]; simp [h1]
theorem bad_step {x : List (List Int × List Int)} {l : List Int} {q : Nat} {v : Int} (hs : badTo x l q = false) (hv : v = l.getD q 0) (h : isHd x v = false) : badTo x l (q + 1) = false := by
  unfold badTo at hs ⊢
  rw [List.range_succ, List.any_append, hs]
  simp only [List.any_cons, List.any_nil, ← hv, h, Bool.and_false, Bool.or_false]
theorem bad_end {x : List (List Int × List Int)} {l r : List Int} {m : Nat} (hl : l.length = m) (hs : badTo x l m = false) : badL x (l, r) = false := by unfold badL; rw [hl]; exact hs
/-- No left side begins with a variable. -/
theorem isHd_neg {xs : List Int} {x : List (List Int × List Int)} (h : systemOk xs x = true) {v : Int} (hv : v < 0) : isHd x v = false := by
  unfold isHd
  rw [List.any_eq_false]
  intro t ht
  obtain ⟨k, hk, rfl⟩ := List.mem_iff_getElem.1 ht
  have := (rule_lens h hk (l := x[k].1) (r := x[k].2) (by rw [List.getD_eq_getElem?_getD, List.getElem?_eq_getElem hk, Option.getD_some])).2.2.1
  unfold headIs
  simp only [decide_eq_true_eq]
  omega
def conSystem (xs : List Int) (x : List (List Int × List Int)) : Bool := systemOk xs x && !(x.any (badL x))
theorem con_no {xs : List Int} {x : List (List Int × List Int)} (h : systemOk xs x = false) : conSystem xs x = false := by unfold conSystem; rw [h]; rfl
theorem con_hit {xs : List Int} {x : List (List Int × List Int)} {k : Nat} {t : List Int × List Int} (hk : k < x.length) (ht : t = x.getD k ([], [])) (h : badL x t = true) : conSystem xs x = false := by
  unfold conSystem; rw [any_hit hk ht h]; simp
theorem con_end {xs : List Int} {x : List (List Int × List Int)} {n : Nat} (hq : systemOk xs x = true) (hl : x.length = n) (hs : (x.take n).any (badL x) = false) : conSystem xs x = true := by
  unfold conSystem; rw [hq, any_end hl hs]; rfl
set_option maxHeartbeats 400000 in
theorem isDefC_any (b : Nat) (v : Int) (B : Option Addr) (m d : Nat) (C : Option Addr) (o f : Nat) (l r : List Int) (w : World) (h : RI w B m l) (ho : 1 ≤ m) (ho2 : m ≤ 60) (hcv : w.cell? ⟨b, 0, none⟩ = some (.int .i64 v)) :
    Calls Try.prog 40 #[.agg #[.slice B m d, .slice C o f], .pointer (some ⟨b, 0, none⟩)] w fun e w' => e = .returned (.bool (headIs v (l, r))) ∧ Below w.heap.size w w' := by
  obtain ⟨g, off, z, rfl, hc, hv⟩ := h.at_ (k := 0) (by omega)
  rw [Nat.add_zero] at hc
  have hlt : g < w.heap.size := World.block_lt_of_cell? _ _ hc
  have hlt2 : b < w.heap.size := World.block_lt_of_cell? _ _ hcv
  have HE : Hid (headIs v (l, r) = (z == v)) := Lib.hid (by unfold headIs; rw [hv.out, Bool.eq_iff_iff]; simp)
  have ho1 : (0 : Int) < m := by omega
  clear hv
  go_enter Try.func40, Try.ntmps40
  go_wp2_with fail
  go_quiet (fail)
  go_wp2_with fail
  go_ret
  exact ⟨ret_bool HE.out.symm, below_drewN ((Below.refl _ _).alloc (Nat.le_refl _) _) _⟩
set_option maxHeartbeats 1000000 in
set_option maxRecDepth 20000 in
theorem indexDef_any (b : Nat) (p : List Int × List Int → Bool) (A : Option Addr) (n c : Nat) (x : List (List Int × List Int)) (w : World) (h : RU w A n x) (hn : n ≤ 1048576)
    (hf : ∀ (W : World) (k : Nat) (B : Option Addr) (m d : Nat) (C : Option Addr) (o f : Nat) (l r : List Int), k < x.length → (l, r) = x.getD k ([], []) → RI W B m l → RI W C o r → Below w.heap.size w W → Calls Try.prog 40 #[.agg #[.slice B m d, .slice C o f], .pointer (some ⟨b, 0, none⟩)] W fun e w' => e = .returned (.bool (p (l, r))) ∧ Below W.heap.size W w') :
    Calls Try.prog 37 #[.slice A n c, .func (.func 40) #[] #[.pointer (some ⟨b, 0, none⟩)]] w fun e w' => ∃ j : Int, e = .returned (.int .i64 j) ∧ decide (0 ≤ j) = x.any p ∧ Below w.heap.size w w' := by
  have hl := h.1
  have HF := Lib.hid hf
  clear hf
  go_enter Try.func37, Try.ntmps37
  go_wp2_with fail
  go_loopw [8, 5] (fun i _ wr => ∃ k : Nat, k ≤ n ∧ i = .int .i64 k ∧ Hid ((x.take k).any p = false) ∧ Below w.heap.size w wr) (fun i _ _ => n - (intOf i).toNat)
  case atStart => exact ⟨0, Nat.zero_le _, rfl, Lib.hid (by simp), Below.refl _ _⟩
  case round =>
    obtain ⟨k, hk, rfl, hso, hb⟩ := hrel
    by_cases hlt : k < n
    · obtain ⟨g, off, L, ml, dl, R, mr, dr, l, r, rfl, hcl, hcr, hL, hR, _, _, _, _, hx⟩ := (h.below hb).at_ hlt
      cases hT : p (l, r)
      · have HS := Lib.hid (any_step hso.out (by omega) hx.out hT)
        have HT := Lib.hid hT
        have HC := Lib.hid (HF.out wr k L ml dl R mr dr l r (by omega) hx.out hL hR hb)
        clear hx hT
        go_wp2_with fail
        refine HC.out.mono ?_
        rintro e w1 ⟨rfl, hb1⟩
        rw [HT.out]
        go_wp2_with fail
        go_roundw
        case rel => exact ⟨k + 1, by omega, by go_num, HS, below_then hb hb1 hb.size⟩
        case measure => simp [intOf]; omega
      · have HS := Lib.hid (any_hit (p := p) (by omega) hx.out hT)
        have HT := Lib.hid hT
        have HC := Lib.hid (HF.out wr k L ml dl R mr dr l r (by omega) hx.out hL hR hb)
        clear hx hT
        go_wp2_with fail
        refine HC.out.mono ?_
        rintro e w1 ⟨rfl, hb1⟩
        rw [HT.out]
        go_wp2_with fail
        go_ret
        exact ⟨k, rfl, by rw [HS.out]; simp, below_then hb hb1 hb.size⟩
    · have hkn : k = n := by omega
      subst hkn
      have HS := Lib.hid (any_end hl hso.out)
      go_wp2_with fail
      go_ret
      exact ⟨-1, rfl, by rw [HS.out]; rfl, hb⟩
set_option maxHeartbeats 400000 in
theorem containsDef_any (b : Nat) (p : List Int × List Int → Bool) (A : Option Addr) (n c : Nat) (x : List (List Int × List Int)) (w : World) (h : RU w A n x) (hn : n ≤ 1048576)
    (hf : ∀ (W : World) (k : Nat) (B : Option Addr) (m d : Nat) (C : Option Addr) (o f : Nat) (l r : List Int), k < x.length → (l, r) = x.getD k ([], []) → RI W B m l → RI W C o r → Below w.heap.size w W → Calls Try.prog 40 #[.agg #[.slice B m d, .slice C o f], .pointer (some ⟨b, 0, none⟩)] W fun e w' => e = .returned (.bool (p (l, r))) ∧ Below W.heap.size W w') :
    Calls Try.prog 19 #[.slice A n c, .func (.func 40) #[] #[.pointer (some ⟨b, 0, none⟩)]] w fun e w' => e = .returned (.bool (x.any p)) ∧ Below w.heap.size w w' := by
  have HF := Lib.hid hf
  clear hf
  go_enter Try.func19, Try.ntmps19
  go_wp2_with fail
  refine (indexDef_any b p A n c x _ h hn HF.out).mono ?_
  rintro e w1 ⟨j, rfl, hj, hb1⟩
  have HJ := Lib.hid hj
  clear hj
  go_wp2_with fail
  go_ret
  exact ⟨ret_bool HJ.out, hb1⟩
set_option maxHeartbeats 400000 in
theorem isDefined_any (A : Option Addr) (n c : Nat) (xs : List Int) (B : Option Addr) (m d : Nat) (x : List (List Int × List Int)) (v : Int) (w : World) (h' : RU w B m x) (hm : m ≤ 1048576) (hq : systemOk xs x = true) :
    Calls Try.prog 24 #[.agg #[.slice A n c, .slice B m d], .int .i64 v] w fun e w' => e = .returned (.bool (isHd x v)) ∧ Below w.heap.size w w' := by
  have hmf : ∀ (fn : Fn) (first cap : Array Value) (w : World), (Instr.makeFunc fn first cap).run Try.prog w = .ok (.func fn first cap) w := fun _ _ _ _ => rfl
  have HQ := Lib.hid hq
  have hB0 : Below w.heap.size w ((w.alloc (.cells #[.slice A n c, .slice B m d] 29)).alloc (.cells #[.int .i64 v] 2)) := ((Below.refl _ _).alloc (Nat.le_refl _) _).alloc (by simp) _
  have hcv : ((w.alloc (.cells #[.slice A n c, .slice B m d] 29)).alloc (.cells #[.int .i64 v] 2)).cell? ⟨w.heap.size + 1, 0, none⟩ = some (.int .i64 v) := by simp
  have HC := Lib.hid (containsDef_any (w.heap.size + 1) (headIs v) B m d x _ (h'.below hB0) hm (fun W k B m d C o f l r hk ht h1 h2 hb => isDefC_any (w.heap.size + 1) v B m d C o f l r W h1 (by have := (rule_lens HQ.out hk ht).1; rw [h1.1] at this; exact this.1) (by have := (rule_lens HQ.out hk ht).1; rw [h1.1] at this; exact this.2) (keepC hb hcv)))
  clear hq hcv
  go_enter Try.func24, Try.ntmps24
  go_wp2_with fail
  refine HC.out.mono ?_
  rintro e w1 ⟨rfl, hb1⟩
  go_wp2_with fail
  go_ret
  exact ⟨rfl, below_then hB0 hb1 hB0.size⟩
end Go.Proofs.Ytaeilbpgpchciaa
