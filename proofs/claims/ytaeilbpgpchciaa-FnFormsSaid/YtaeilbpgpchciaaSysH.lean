/- Contracts: the heads of the left sides; constructor systems, the model's side. -/
import Derived.Test.YtaeilbpgpchciaaSysG
import Derived.Test.YtaeilbpgpchciaaVars
import Derived.Test.YtaeilbpgpchciaaHas
namespace Go.Proofs.Ytaeilbpgpchciaa
open Go.RowKit
set_option linter.unusedVariables false

theorem into_mem {xs : List Int} {n v : Int} : v ∈ into xs n ↔ v ∈ xs ∨ v = n := by
  by_cases h : low n xs < xs.length ∧ xs.getD (low n xs) 0 = n
  · rw [into_same h]
    constructor
    · exact .inl
    · rintro (h1 | rfl)
      · exact h1
      · have := Pl.getD_mem h.1; rwa [h.2] at this
  · rw [into_new h]
    have e : v ∈ xs ↔ v ∈ xs.take (low n xs) ∨ v ∈ xs.drop (low n xs) := by rw [← List.mem_append, List.take_append_drop]
    rw [e]
    simp only [List.mem_append, List.mem_singleton]
    constructor
    · rintro ((h1 | h1) | h1)
      · exact .inl (.inl h1)
      · exact .inr h1
      · exact .inl (.inr h1)
    · rintro ((h1 | h1) | h1)
      · exact .inl (.inl h1)
      · exact .inr h1
      · exact .inl (.inr h1)
theorem into_len (xs : List Int) (n : Int) : (into xs n).length ≤ xs.length + 1 := by
  by_cases h : low n xs < xs.length ∧ xs.getD (low n xs) 0 = n
  · rw [into_same h]; omega
  · rw [into_new h]; simp only [List.length_append, List.length_take, List.length_drop, List.length_singleton]; omega
/-- The list holds the heads of the first k rules. -/
def HeadsOf (x : List (List Int × List Int)) (k : Nat) (ys : List Int) : Prop := ∀ v, v ∈ ys ↔ isHd (x.take k) v = true
theorem heads_nil (x : List (List Int × List Int)) : HeadsOf x 0 [] := fun v => by unfold isHd; simp
theorem heads_step {x : List (List Int × List Int)} {k : Nat} {ys l r : List Int} {z : Int} (h : HeadsOf x k ys) (hk : k < x.length) (hx : (l, r) = x.getD k ([], [])) (hz : z = l.getD 0 0) : HeadsOf x (k + 1) (into ys z) := fun v => by
  rw [into_mem, h v]
  unfold isHd
  rw [takeU_snoc hk rfl, List.any_append, Bool.or_eq_true, ← hx]
  unfold headIs
  simp only [List.any_cons, List.any_nil, Bool.or_false, decide_eq_true_eq, ← hz]
  constructor
  · rintro (h1 | h1)
    · exact .inl h1
    · exact .inr h1.symm
  · rintro (h1 | h1)
    · exact .inl h1
    · exact .inr h1.symm
theorem heads_end {x : List (List Int × List Int)} {m : Nat} {ys : List Int} (h : HeadsOf x m ys) (hl : x.length = m) (v : Int) : ys.contains v = isHd x v := by
  have := h v
  rw [List.take_of_length_le (by omega)] at this
  rw [Bool.eq_iff_iff, List.contains_iff_mem, this]
theorem into_ne (xs : List Int) (n : Int) : 0 < (into xs n).length := List.length_pos_of_mem (into_mem.2 (.inr rfl))
set_option maxHeartbeats 2000000 in
set_option maxRecDepth 20000 in
theorem l6Defined_any (A : Option Addr) (n c : Nat) (xs : List Int) (B : Option Addr) (m d : Nat) (x : List (List Int × List Int)) (w : World) (h' : RU w B m x) (hq : systemOk xs x = true) :
    Calls Try.prog 25 #[.agg #[.slice A n c, .slice B m d]] w fun e w' => ∃ A' n' c' ys, e = .returned (.slice A' n' c') ∧ RI w' A' n' ys ∧ n' ≤ 12 ∧ Hid (HeadsOf x m ys) ∧ Below w.heap.size w w' := by
  have hl := h'.1
  have hm12 : m ≤ 12 := by have := (systemOk_iff.1 hq).2.1; omega
  have HQ := Lib.hid (fun (k : Nat) (l r : List Int) (hk : k < m) (ht : (l, r) = x.getD k ([], [])) => rule_lens hq (by omega) ht)
  clear hq
  have hO : Hid (OI ((w.alloc (.cells #[.slice A n c, .slice B m d] 29)).alloc (.cells #[] 2)) w.heap.size (some ⟨w.heap.size + 1, 0, none⟩) 0 0 []) := Lib.hid (by
    have := OI.empty (w.alloc (.cells #[.slice A n c, .slice B m d] 29)) (B := w.heap.size) (by simp)
    simpa using this)
  have hB0 : Below w.heap.size w ((w.alloc (.cells #[.slice A n c, .slice B m d] 29)).alloc (.cells #[] 2)) := ((Below.refl _ _).alloc (Nat.le_refl _) _).alloc (by simp) _
  have b1 : ((w.alloc (.cells #[.slice A n c, .slice B m d] 29)).alloc (.cells #[] 2)).cell? ⟨w.heap.size, 1, none⟩ = some (.slice B m d) := by simp
  go_enter Try.func25, Try.ntmps25
  go_wp2_with fail
  generalize (w.alloc (.cells #[.slice A n c, .slice B m d] 29)).alloc (.cells #[] 2) = W0 at *
  go_loopw [3, 4] (fun u i wr => ∃ (k g n c : Nat) (ys : List Int), k ≤ m ∧ i = .int .i64 k ∧ u = .slice (some ⟨g, 0, none⟩) n c ∧ Hid (n = ys.length) ∧ n ≤ k ∧ n ≤ c ∧ c ≤ 9223372036854775807 ∧ Hid (HeadsOf x k ys) ∧ Hid (OI wr w.heap.size (some ⟨g, 0, none⟩) n c ys) ∧ wr.cell? ⟨w.heap.size, 1, none⟩ = some (.slice B m d) ∧ Below w.heap.size w wr) (fun _ i _ => m - (intOf i).toNat)
  case atStart => exact ⟨0, _, 0, 0, [], Nat.zero_le _, rfl, rfl, Lib.hid rfl, by omega, by omega, by omega, Lib.hid (heads_nil x), hO, b1, hB0⟩
  case round =>
    obtain ⟨k, g, n, c, ys, hk, rfl, rfl, hnl, hnk, hnc, hc2, hys, ho, b1', hb⟩ := hrel
    by_cases hlt : k < m
    · obtain ⟨g', off', L, ml, dl, R, mr, dr, l, r, rfl, hcl, hcr, hL, hR, _, _, _, _, hx⟩ := (h'.below hb).at_ hlt
      have hlens := (HQ.out k l r hlt hx.out).1
      rw [hL.1] at hlens
      obtain ⟨gl, ol, z, rfl, hcz, hz⟩ := hL.at_ (k := 0) (by omega)
      rw [Nat.add_zero] at hcz
      have hml : (0 : Int) < ml := by omega
      have hk0 : (0 : Int) ≤ k := by omega
      have hk1 : (k : Int) < m := by omega
      have hsz := hb.size
      have HI := Lib.hid (heads_step hys.out (by omega) hx.out hz.out)
      have hle := into_len ys z
      rw [← hnl.out] at hle
      have hpos := into_ne ys z
      clear hx hz hys
      go_wp2_with fail
      refine (l1Into_any g 0 n c ys z _ ho.out.ri hnc hc2 (by omega)).mono ?_
      rintro e w1 ⟨A', c', rfl, hor, hb1⟩
      obtain ⟨g2, rfl, h1, h2, ho2⟩ := into_keep hor ho.out hsz hnc hc2 hb1 hpos
      have HO2 := Lib.hid ho2
      have b2 := keepC hb1 b1'
      have hb2 := below_then hb hb1 hsz
      clear hor ho ho2 hnl
      go_wp2_with fail
      go_roundw
      case rel => exact ⟨k + 1, g2, _, c', _, by omega, by go_num, rfl, Lib.hid rfl, by omega, h1, h2, HI, HO2, b2, hb2⟩
      case measure => simp [intOf]; omega
    · have hkm : k = m := by omega
      subst hkm
      have HR := Lib.hid ho.out.ri
      go_wp2_with fail
      go_ret
      exact ⟨some ⟨g, 0, none⟩, n, c, ys, rfl, HR.out, by omega, hys, hb⟩
end Go.Proofs.Ytaeilbpgpchciaa
