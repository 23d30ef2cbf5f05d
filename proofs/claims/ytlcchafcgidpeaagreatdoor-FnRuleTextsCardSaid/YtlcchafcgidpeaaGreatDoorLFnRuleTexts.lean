/- The law FnRuleTexts: whatever the input, it returns true and leaves its argument alone. -/
import Derived.Test.YtlcchafcgidpeaaGreatDoorOpenB
import Derived.Test.YtlcchafcgidpeaaGreatDoorDrawR
import Derived.Test.YtlcchafcgidpeaaGreatDoorTxtW
import Derived.Test.YtlcchafcgidpeaaGreatDoorTxtY
import Derived.Test.YtlcchafcgidpeaaGreatDoorSigY
import Derived.Test.YtlcchafcgidpeaaGreatDoorRuleT
import Derived.Test.YtlcchafcgidpeaaGreatDoorBig
import Derived.Test.YtlcchafcgidpeaaGreatDoorCard
import Derived.Test.YtlcchafcgidpeaaGreatDoorRows
import Derived.Test.YtlcchafcgidpeaaGreatDoorTie
import Derived.Test.YtlcchafcgidpeaaGreatDoorCards
import Derived.Deep.RegionHeld3
import Derived.ProofKit
import Derived.Lay
import Derived.SevenTiedAt
namespace Go.Proofs.YtlcchafcgidpeaaGreatDoor.lFnRuleTexts
open Go.RowKit Go.ChangeShapes Go.WideShapes Go.ChangeAt
set_option linter.unusedVariables false
set_option linter.unusedSimpArgs false

theorem at_zero {α : Type} {a : α} {l : List α} : (a :: l).toArray[0]? = some a := by simp
theorem at_succ {α : Type} {a o : α} {l : List α} {i : Nat} (h : l.toArray[i]? = some o) : (a :: l).toArray[i + 1]? = some o := by simpa using h
theorem step_unwanted {c : Bool} {A B : Prop} (h : c = false) (hb : B) : if c = true then A else B := by rw [h]; simpa using hb
theorem region_begin {P : Program} {ops : Array Oper} {Q : Exit → Act → World → Prop} {S : World → Prop} {id : Nat} {a : Act} {w : World} (hm : P.follows .mixedOrders = true) (hS : S w.drew) (hq : ∀ c (a : Act) (d : Tmp) (v : Value) (w : World), Q (.panic c) (a.put (some d) v) w → Q (.panic c) a w)
    (h : Hid (∀ c (a : Act) (d : Tmp) (v : Value) (w : World), Q (.panic c) (a.put (some d) v) w → Q (.panic c) a w) → S w.drew → wpAnyH P .any ops Q S ops.size (Array.replicate ops.size false) a w.drew) : (Code.region id ops true).wp P Q a w :=
  wp_region_held_drew hm hS (h (Lib.hid hq))
theorem sigAgain {v : ByteArray} {y : List Int} (h : V_TextSig v = (y, true)) : (⟨(V_SigText y).toArray⟩ : ByteArray) = v := by
  unfold V_TextSig at h
  split at h
  · cases h
  · split at h
    · rename_i xs hx
      cases h
      obtain ⟨h1, h2⟩ := Pl.readS_txt hx
      rw [V_SigText_yes h1, h2]
    · cases h
theorem ruleAgain {xs l r : List Int} {z : ByteArray} (h : V_TextRule xs z = ((l, r), true)) : (⟨(V_RuleText xs l r).toArray⟩ : ByteArray) = z := by
  unfold V_TextRule at h
  split at h
  · cases h
  · split at h
    · rename_i l' r' hx
      split at h
      · rename_i hok
        cases h
        obtain ⟨_, _, h3⟩ := Pl.sides_iff.1 hx
        rw [V_RuleText_yes hok, ← h3]
      · cases h
    · cases h
set_option maxHeartbeats 16000000 in
set_option maxRecDepth 100000 in
theorem walk (A : Option Addr) (n c : Nat) (w : World) (h : BI w A n) (hn : n ≤ 9223372036854775807) (hM : ML w) :
    Calls Tryz.prog 3 #[.slice A n c] w fun e w' => e = .returned (.bool true) ∧ Below w.heap.size w w' := by
  by_cases hb : 4096 < n
  · have E := Lib.hid (decide_eq_true hb)
    go_enter Tryz.func3, Tryz.ntmps3
    go_wp2_with fail
    refine (big_any A n c _ hn).mono ?_
    rintro e w1 ⟨rfl, rfl⟩
    rw [E.out]
    go_wp2_with fail
    go_ret
    exact ⟨rfl, Below.refl _ _⟩
  have hn2 : n ≤ 4096 := by omega
  have E := Lib.hid (decide_eq_false hb)
  clear hb
  go_enter Tryz.func3, Tryz.ntmps3
  go_wp2_with fail
  refine (big_any A n c _ hn).mono ?_
  rintro e w1 ⟨rfl, rfl⟩
  rw [E.out]
  go_wp2_with fail
  refine (DrawTextRule_any A n c w h hn2).mono ?_
  rintro e w1 ⟨S, m, d', xs, z, rfl, hS, hm, hz, hB⟩
  replace h := h.below hB
  replace hM := hM.below hB
  clear E
  have hal : Below w1.heap.size w1 (w1.alloc (.cells #[.slice S m d'] 26)) := (Below.refl _ _).alloc (Nat.le_refl _) _
  have bx : (w1.alloc (.cells #[.slice S m d'] 26)).cell? ⟨w1.heap.size, 0, none⟩ = some (.slice S m d') := (Blk.new w1 26 #[.slice S m d']).cell 0
  replace hS := hS.below hal
  replace h := h.below hal
  replace hM := hM.below hal
  replace hB := below_then hB hal hB.size
  clear hal
  go_wp2_with fail
  generalize w1.alloc (.cells #[.slice S m d'] 26) = W1 at *
  generalize w1.heap.size = g1 at *
  refine (I_TextRule S m d' xs z W1 hS (by omega) (by omega) hM).mono ?_
  rintro e w2 ⟨P, pc, Q, qc, rfl, hP, hQ, _, hb2⟩
  replace hS := hS.below hb2
  replace h := h.below hb2
  replace hM := hM.below hb2
  replace bx := keepC hb2 bx
  replace hB := below_then hB hb2 hB.size
  clear hb2
  have hyl := bd_TextRule xs z
  have hag := fun l r (hv : V_TextRule xs z = ((l, r), true)) => ruleAgain hv
  have HAG := Lib.hid hag
  obtain ⟨⟨⟨l, r⟩, k⟩, hvv⟩ : ∃ z', V_TextRule xs z = z' := ⟨_, rfl⟩
  have HV := Lib.hid hvv
  rw [hvv] at hP hQ hyl ⊢
  clear hag hvv
  dsimp only at hP hQ hyl ⊢
  replace hP := hP.ri
  replace hQ := hQ.ri
  have hal : Below w2.heap.size w2 (w2.alloc (.cells #[.slice P l.length pc, .slice Q r.length qc] 30)) := (Below.refl _ _).alloc (Nat.le_refl _) _
  have by0 : (w2.alloc (.cells #[.slice P l.length pc, .slice Q r.length qc] 30)).cell? ⟨w2.heap.size, 0, none⟩ = some (.slice P l.length pc) := (Blk.new w2 30 #[.slice P l.length pc, .slice Q r.length qc]).cell 0
  have by1 : (w2.alloc (.cells #[.slice P l.length pc, .slice Q r.length qc] 30)).cell? ⟨w2.heap.size, 1, none⟩ = some (.slice Q r.length qc) := (Blk.new w2 30 #[.slice P l.length pc, .slice Q r.length qc]).cell 1
  replace hS := hS.below hal
  replace h := h.below hal
  replace hM := hM.below hal
  replace hP := hP.below hal
  replace hQ := hQ.below hal
  replace bx := keepC hal bx
  replace hB := below_then hB hal hB.size
  clear hal
  go_wp2_with fail
  generalize w2.alloc (.cells #[.slice P l.length pc, .slice Q r.length qc] 30) = W2 at *
  generalize w2.heap.size = g2 at *
  refine (S_TextRule S m d' xs z W2 hS (by omega) (by omega)).mono ?_
  rw [HV.out]
  rintro e w3 ⟨P2, pc2, Q2, qc2, rfl, _, _, _, hb3⟩
  replace hS := hS.below hb3
  replace h := h.below hb3
  replace hM := hM.below hb3
  replace hP := hP.below hb3
  replace hQ := hQ.below hb3
  replace bx := keepC hb3 bx
  replace by0 := keepC hb3 by0
  replace by1 := keepC hb3 by1
  replace hB := below_then hB hb3 hB.size
  clear hb3
  have hal : Below w3.heap.size w3 (w3.alloc (.cells #[.slice P2 l.length pc2, .slice Q2 r.length qc2] 30)) := (Below.refl _ _).alloc (Nat.le_refl _) _
  replace hS := hS.below hal
  replace h := h.below hal
  replace hM := hM.below hal
  replace hP := hP.below hal
  replace hQ := hQ.below hal
  replace bx := keepC hal bx
  replace by0 := keepC hal by0
  replace by1 := keepC hal by1
  replace hB := below_then hB hal hB.size
  clear hal
  cases k
  · clear HAG HV hP hQ bx by0 by1
    go_wp2_with fail
    generalize w3.alloc (.cells #[.slice P2 l.length pc2, .slice Q2 r.length qc2] 30) = W3 at *
    refine (DrawTextSig_any A n c W3 h hn2).mono ?_
    rintro e u1 ⟨v, rfl, hv, hb1⟩
    replace h := h.below hb1
    replace hM := hM.below hb1
    replace hB := below_then hB hb1 hB.size
    clear hb1
    go_wp2_with fail
    refine (I_TextSig v u1 (by omega) hM).mono ?_
    rintro e u2 ⟨X, xc, rfl, hX, hb2⟩
    replace h := h.below hb2
    replace hB := below_then hB hb2 hB.size
    clear hb2
    have hxl := bd_TextSig v
    have hag := fun y (hv : V_TextSig v = (y, true)) => sigAgain hv
    have HAG := Lib.hid hag
    obtain ⟨⟨y, b⟩, hvv⟩ : ∃ z, V_TextSig v = z := ⟨_, rfl⟩
    have HV := Lib.hid hvv
    rw [hvv] at hX hxl ⊢
    clear hag hvv hM
    dsimp only at hX hxl ⊢
    replace hX := hX.ri
    have b10 : (u2.alloc (.cells #[.slice X y.length xc] 26)).cell? ⟨u2.heap.size, 0, none⟩ = some (.slice X y.length xc) := (Blk.new u2 26 #[.slice X y.length xc]).cell 0
    go_wp2_with fail
    replace hX := hX.alloc (.cells #[.slice X y.length xc] 26)
    replace h := h.below ((Below.refl _ _).alloc (Nat.le_refl _) (.cells #[.slice X y.length xc] 26))
    replace hB := hB.alloc hB.size (.cells #[.slice X y.length xc] 26)
    generalize u2.alloc (.cells #[.slice X y.length xc] 26) = U2 at *
    generalize u2.heap.size = g4 at *
    refine (S_TextSig v U2 (by omega)).mono ?_
    rw [HV.out]
    rintro e u3 ⟨Y, yc, rfl, hY, hb3⟩
    replace h := h.below hb3
    replace hX := hX.below hb3
    replace b10 := keepC hb3 b10
    replace hB := below_then hB hb3 hB.size
    clear hb3
    clear hY
    have hal : Below u3.heap.size u3 (u3.alloc (.cells #[.slice Y y.length yc] 26)) := (Below.refl _ _).alloc (Nat.le_refl _) _
    replace h := h.below hal
    replace hX := hX.below hal
    replace b10 := keepC hal b10
    replace hB := below_then hB hal hB.size
    clear hal
    go_wp2_with fail
    generalize u3.alloc (.cells #[.slice Y y.length yc] 26) = U3 at *
    refine (DrawSubstText_any A n c U3 h hn2).mono ?_
    rintro e u4 ⟨G, mg, cg, gs, U, j, bb, x, rfl, hG, hmg, ⟨hU, hwt, hj⟩, hb4⟩
    replace hX := hX.below hb4
    replace b10 := keepC hb4 b10
    replace hB := below_then hB hb4 hB.size
    clear hb4
    clear h
    have hal2 : Below u4.heap.size u4 ((u4.alloc (.cells #[.slice G mg cg] 26)).alloc (.cells #[.slice U j bb] 39)) := ((Below.refl _ _).alloc (Nat.le_refl _) _).alloc (by simp) _
    have b14 : ((u4.alloc (.cells #[.slice G mg cg] 26)).alloc (.cells #[.slice U j bb] 39)).cell? ⟨u4.heap.size, 0, none⟩ = some (.slice G mg cg) := ((Blk.new u4 26 #[.slice G mg cg]).alloc (.cells #[.slice U j bb] 39)).cell 0
    have b15 : ((u4.alloc (.cells #[.slice G mg cg] 26)).alloc (.cells #[.slice U j bb] 39)).cell? ⟨u4.heap.size + 1, 0, none⟩ = some (.slice U j bb) := by
      have k_ := (Blk.new (u4.alloc (.cells #[.slice G mg cg] 26)) 39 #[.slice U j bb]).cell 0
      simpa only [World.size_alloc, List.getElem?_toArray, List.getElem?_cons_zero] using k_
    have hG4 := hG.below hal2
    have hU4 := hU.below hal2
    replace hX := hX.below hal2
    replace b10 := keepC hal2 b10
    replace hB := below_then hB hal2 hB.size
    clear hal2
    clear hG hU
    go_wp2_with fail
    generalize (u4.alloc (.cells #[.slice G mg cg] 26)).alloc (.cells #[.slice U j bb] 39) = W9 at *
    generalize u4.heap.size = g6 at *
    cases b
    · refine region_begin (S := fun w' => Below W9.heap.size W9 w' ∧ w'.cell? ⟨g4, 0, none⟩ = some (.slice X y.length xc) ∧ w'.cell? ⟨g6, 0, none⟩ = some (.slice G mg cg) ∧ w'.cell? ⟨g6 + 1, 0, none⟩ = some (.slice U j bb)) (by kernel_rfl) ⟨(Below.refl _ _).drew, b10, b14, b15⟩ (fun _ _ _ _ _ h => h) (fun HPQ hHeld => ?_)
      refine wpAnyH_take (i := 0) (v := ?_) (at_zero) (by kernel_rfl) (by kernel_rfl) (by kernel_rfl) (fun _ _ _ h => HPQ.out _ _ _ _ _ h) (Or.inl ⟨by rfl, ?_⟩) (by assumption) ?_
      rotate_left
      · intro w_ hS_
        try dsimp only at hS_
        go_simp
        all_goals with_reducible rfl
      try simp only [Act.put, List.setIfInBounds_toArray, List.set_cons_zero, List.set_cons_succ]
      refine wpAnyH_take (i := 1) (v := ?_) (at_succ at_zero) (by kernel_rfl) (by kernel_rfl) (by kernel_rfl) (fun _ _ _ h => HPQ.out _ _ _ _ _ h) (Or.inl ⟨by rfl, ?_⟩) (by assumption) ?_
      rotate_left
      · intro w_ hS_
        try dsimp only at hS_
        go_simp
        all_goals with_reducible rfl
      try simp only [Act.put, List.setIfInBounds_toArray, List.set_cons_zero, List.set_cons_succ]
      refine wpAnyH_take (i := 2) (v := ?_) (at_succ (at_succ at_zero)) (by kernel_rfl) (by kernel_rfl) (by kernel_rfl) (fun _ _ _ h => HPQ.out _ _ _ _ _ h) (Or.inl ⟨by rfl, ?_⟩) (by assumption) ?_
      rotate_left
      · intro w_ hS_
        try dsimp only at hS_
        go_simp
        all_goals with_reducible rfl
      try simp only [Act.put, List.setIfInBounds_toArray, List.set_cons_zero, List.set_cons_succ]
      refine wpAnyH_take (i := 3) (v := ?_) (at_succ (at_succ (at_succ at_zero))) (by kernel_rfl) (by kernel_rfl) (by kernel_rfl) (fun _ _ _ h => HPQ.out _ _ _ _ _ h) (Or.inl ⟨by rfl, ?_⟩) (by assumption) ?_
      rotate_left
      · intro w_ hS_
        try dsimp only at hS_
        go_simp
        all_goals with_reducible rfl
      try simp only [Act.put, List.setIfInBounds_toArray, List.set_cons_zero, List.set_cons_succ]
      refine wpAnyH_take (i := 4) (v := ?_) (at_succ (at_succ (at_succ (at_succ at_zero)))) (by kernel_rfl) (by kernel_rfl) (by kernel_rfl) (fun _ _ _ h => HPQ.out _ _ _ _ _ h) (Or.inl ⟨by rfl, ?_⟩) (by assumption) ?_
      rotate_left
      · intro w_ hS_
        try dsimp only at hS_
        go_simp
        all_goals with_reducible rfl
      try simp only [Act.put, List.setIfInBounds_toArray, List.set_cons_zero, List.set_cons_succ]
      refine wpAnyH_take (i := 5) (v := ?_) (at_succ (at_succ (at_succ (at_succ (at_succ at_zero))))) (by kernel_rfl) (by kernel_rfl) (by kernel_rfl) (fun _ _ _ h => HPQ.out _ _ _ _ _ h) (Or.inl ⟨by rfl, ?_⟩) (by assumption) ?_
      rotate_left
      · intro w_ hS_
        try dsimp only at hS_
        go_simp
        all_goals with_reducible rfl
      try simp only [Act.put, List.setIfInBounds_toArray, List.set_cons_zero, List.set_cons_succ]
      refine wpAnyH_take (i := 6) (v := ?_) (at_succ (at_succ (at_succ (at_succ (at_succ (at_succ at_zero)))))) (by kernel_rfl) (by kernel_rfl) (by kernel_rfl) (fun _ _ _ h => HPQ.out _ _ _ _ _ h) (Or.inl ⟨by rfl, ?_⟩) (by assumption) ?_
      rotate_left
      · intro w_ hS_
        try dsimp only at hS_
        go_simp
        all_goals with_reducible rfl
      try simp only [Act.put, List.setIfInBounds_toArray, List.set_cons_zero, List.set_cons_succ]
      first
        | refine wpAnyH_take (i := 7) (v := undef) (at_succ (at_succ (at_succ (at_succ (at_succ (at_succ (at_succ at_zero))))))) (by kernel_rfl) (by kernel_rfl) (by kernel_rfl) (fun _ _ _ h => HPQ.out _ _ _ _ _ h) (Or.inr ⟨by kernel_rfl, rfl⟩) (by assumption) ?_
        | (refine wpAnyH_ready (rs := [7]) (by kernel_rfl) (by simp) ?_; refine AllReadyH.cons (at_succ (at_succ (at_succ (at_succ (at_succ (at_succ (at_succ at_zero))))))) (fun K hK => ?_) AllReadyH.nil; refine step_unwanted (by kernel_rfl) ?_; refine hK.out _ _ (by assumption) (fun hHeld => ?_); clear hK K)
      try simp only [Act.put, List.setIfInBounds_toArray, List.set_cons_zero, List.set_cons_succ]
      first
        | refine wpAnyH_take (i := 9) (v := undef) (at_succ (at_succ (at_succ (at_succ (at_succ (at_succ (at_succ (at_succ (at_succ at_zero))))))))) (by kernel_rfl) (by kernel_rfl) (by kernel_rfl) (fun _ _ _ h => HPQ.out _ _ _ _ _ h) (Or.inr ⟨by kernel_rfl, rfl⟩) (by assumption) ?_
        | (refine wpAnyH_ready (rs := [9]) (by kernel_rfl) (by simp) ?_; refine AllReadyH.cons (at_succ (at_succ (at_succ (at_succ (at_succ (at_succ (at_succ (at_succ (at_succ at_zero))))))))) (fun K hK => ?_) AllReadyH.nil; refine step_unwanted (by kernel_rfl) ?_; refine hK.out _ _ (by assumption) (fun hHeld => ?_); clear hK K)
      try simp only [Act.put, List.setIfInBounds_toArray, List.set_cons_zero, List.set_cons_succ]
      first
        | refine wpAnyH_take (i := 8) (v := undef) (at_succ (at_succ (at_succ (at_succ (at_succ (at_succ (at_succ (at_succ at_zero)))))))) (by kernel_rfl) (by kernel_rfl) (by kernel_rfl) (fun _ _ _ h => HPQ.out _ _ _ _ _ h) (Or.inr ⟨by kernel_rfl, rfl⟩) (by assumption) ?_
        | (refine wpAnyH_ready (rs := [8]) (by kernel_rfl) (by simp) ?_; refine AllReadyH.cons (at_succ (at_succ (at_succ (at_succ (at_succ (at_succ (at_succ (at_succ at_zero)))))))) (fun K hK => ?_) AllReadyH.nil; refine step_unwanted (by kernel_rfl) ?_; refine hK.out _ _ (by assumption) (fun hHeld => ?_); clear hK K)
      try simp only [Act.put, List.setIfInBounds_toArray, List.set_cons_zero, List.set_cons_succ]
      first
        | refine wpAnyH_take (i := 10) (v := undef) (at_succ (at_succ (at_succ (at_succ (at_succ (at_succ (at_succ (at_succ (at_succ (at_succ at_zero)))))))))) (by kernel_rfl) (by kernel_rfl) (by kernel_rfl) (fun _ _ _ h => HPQ.out _ _ _ _ _ h) (Or.inr ⟨by kernel_rfl, rfl⟩) (by assumption) ?_
        | (refine wpAnyH_ready (rs := [10]) (by kernel_rfl) (by simp) ?_; refine AllReadyH.cons (at_succ (at_succ (at_succ (at_succ (at_succ (at_succ (at_succ (at_succ (at_succ (at_succ at_zero)))))))))) (fun K hK => ?_) AllReadyH.nil; refine step_unwanted (by kernel_rfl) ?_; refine hK.out _ _ (by assumption) (fun hHeld => ?_); clear hK K)
      try simp only [Act.put, List.setIfInBounds_toArray, List.set_cons_zero, List.set_cons_succ]
      refine wpAnyH_take (i := 11) (v := ?_) (at_succ (at_succ (at_succ (at_succ (at_succ (at_succ (at_succ (at_succ (at_succ (at_succ (at_succ at_zero))))))))))) (by kernel_rfl) (by kernel_rfl) (by kernel_rfl) (fun _ _ _ h => HPQ.out _ _ _ _ _ h) (Or.inl ⟨by rfl, ?_⟩) (by assumption) ?_
      rotate_left
      · intro w_ hS_
        try dsimp only at hS_
        go_simp
        all_goals with_reducible rfl
      try simp only [Act.put, List.setIfInBounds_toArray, List.set_cons_zero, List.set_cons_succ]
      refine wpAnyH_take (i := 12) (v := ?_) (at_succ (at_succ (at_succ (at_succ (at_succ (at_succ (at_succ (at_succ (at_succ (at_succ (at_succ (at_succ at_zero)))))))))))) (by kernel_rfl) (by kernel_rfl) (by kernel_rfl) (fun _ _ _ h => HPQ.out _ _ _ _ _ h) (Or.inl ⟨by rfl, ?_⟩) (by assumption) ?_
      rotate_left
      · intro w_ hS_
        try dsimp only at hS_
        go_simp
        all_goals with_reducible rfl
      try simp only [Act.put, List.setIfInBounds_toArray, List.set_cons_zero, List.set_cons_succ]
      refine wpAnyH_take (i := 13) (v := ?_) (at_succ (at_succ (at_succ (at_succ (at_succ (at_succ (at_succ (at_succ (at_succ (at_succ (at_succ (at_succ (at_succ at_zero))))))))))))) (by kernel_rfl) (by kernel_rfl) (by kernel_rfl) (fun _ _ _ h => HPQ.out _ _ _ _ _ h) (Or.inl ⟨by rfl, ?_⟩) (by assumption) ?_
      rotate_left
      · intro w_ hS_
        try dsimp only at hS_
        go_simp
        all_goals with_reducible rfl
      try simp only [Act.put, List.setIfInBounds_toArray, List.set_cons_zero, List.set_cons_succ]
      refine wpAnyH_take (i := 14) (v := ?_) (at_succ (at_succ (at_succ (at_succ (at_succ (at_succ (at_succ (at_succ (at_succ (at_succ (at_succ (at_succ (at_succ (at_succ at_zero)))))))))))))) (by kernel_rfl) (by kernel_rfl) (by kernel_rfl) (fun _ _ _ h => HPQ.out _ _ _ _ _ h) (Or.inl ⟨by rfl, ?_⟩) (by assumption) ?_
      rotate_left
      · intro w_ hS_
        try dsimp only at hS_
        go_simp
        all_goals with_reducible rfl
      try simp only [Act.put, List.setIfInBounds_toArray, List.set_cons_zero, List.set_cons_succ]
      refine wpAnyH_take (i := 15) (v := ?_) (at_succ (at_succ (at_succ (at_succ (at_succ (at_succ (at_succ (at_succ (at_succ (at_succ (at_succ (at_succ (at_succ (at_succ (at_succ at_zero))))))))))))))) (by kernel_rfl) (by kernel_rfl) (by kernel_rfl) (fun _ _ _ h => HPQ.out _ _ _ _ _ h) (Or.inl ⟨by rfl, ?_⟩) (by assumption) ?_
      rotate_left
      · intro w_ hS_
        try dsimp only at hS_
        go_simp
        all_goals with_reducible rfl
      try simp only [Act.put, List.setIfInBounds_toArray, List.set_cons_zero, List.set_cons_succ]
      refine wpAnyH_take (i := 17) (v := ?_) (at_succ (at_succ (at_succ (at_succ (at_succ (at_succ (at_succ (at_succ (at_succ (at_succ (at_succ (at_succ (at_succ (at_succ (at_succ (at_succ (at_succ at_zero))))))))))))))))) (by kernel_rfl) (by kernel_rfl) (by kernel_rfl) (fun _ _ _ h => HPQ.out _ _ _ _ _ h) (Or.inl ⟨by rfl, ?_⟩) (by assumption) ?_
      rotate_left
      · intro w_ hS_
        try dsimp only at hS_
        go_simp
        all_goals with_reducible rfl
      try simp only [Act.put, List.setIfInBounds_toArray, List.set_cons_zero, List.set_cons_succ]
      refine wpAnyH_take (i := 18) (v := ?_) (at_succ (at_succ (at_succ (at_succ (at_succ (at_succ (at_succ (at_succ (at_succ (at_succ (at_succ (at_succ (at_succ (at_succ (at_succ (at_succ (at_succ (at_succ at_zero)))))))))))))))))) (by kernel_rfl) (by kernel_rfl) (by kernel_rfl) (fun _ _ _ h => HPQ.out _ _ _ _ _ h) (Or.inl ⟨by rfl, ?_⟩) (by assumption) ?_
      rotate_left
      · intro w_ hS_
        try dsimp only at hS_
        go_simp
        all_goals with_reducible rfl
      try simp only [Act.put, List.setIfInBounds_toArray, List.set_cons_zero, List.set_cons_succ]
      refine wpAnyH_ready (rs := [16]) (by kernel_rfl) (by simp) ?_
      refine AllReadyH.cons (at_succ (at_succ (at_succ (at_succ (at_succ (at_succ (at_succ (at_succ (at_succ (at_succ (at_succ (at_succ (at_succ (at_succ (at_succ (at_succ at_zero)))))))))))))))) (fun K hK => ?_) AllReadyH.nil
      go_simp
      (go_at_call 14; refine (I_SubstText G mg cg gs U j bb x _ (riS hG4 hHeld) (hU4.below hHeld.1) (by omega) (by omega)).mono ?_; rintro e q2 ⟨rfl, hq2⟩)
      try go_wp2_with fail
      refine hK.out _ _ (keepS3 hq2 (by assumption)) (fun hHeld => ?_)
      clear hK K
      try simp only [Act.put, List.setIfInBounds_toArray, List.set_cons_zero, List.set_cons_succ]
      refine wpAnyH_ready (rs := [19]) (by kernel_rfl) (by simp) ?_
      refine AllReadyH.cons (at_succ (at_succ (at_succ (at_succ (at_succ (at_succ (at_succ (at_succ (at_succ (at_succ (at_succ (at_succ (at_succ (at_succ (at_succ (at_succ (at_succ (at_succ (at_succ at_zero))))))))))))))))))) (fun K hK => ?_) AllReadyH.nil
      go_simp
      (go_at_call 15; refine (S_SubstText G mg cg gs U j bb x _ (riS hG4 hHeld) (hU4.below hHeld.1) (by omega) (by omega)).mono ?_; rintro e q3 ⟨rfl, hq3⟩)
      try go_wp2_with fail
      refine hK.out _ _ (keepS3 hq3 (by assumption)) (fun hHeld => ?_)
      clear hK K
      try simp only [Act.put, List.setIfInBounds_toArray, List.set_cons_zero, List.set_cons_succ]
      refine wpAnyH_take (i := 20) (v := ?_) (at_succ (at_succ (at_succ (at_succ (at_succ (at_succ (at_succ (at_succ (at_succ (at_succ (at_succ (at_succ (at_succ (at_succ (at_succ (at_succ (at_succ (at_succ (at_succ (at_succ at_zero)))))))))))))))))))) (by kernel_rfl) (by kernel_rfl) (by kernel_rfl) (fun _ _ _ h => HPQ.out _ _ _ _ _ h) (Or.inl ⟨by rfl, ?_⟩) (by assumption) ?_
      rotate_left
      · intro w_ hS_
        try dsimp only at hS_
        go_simp
        all_goals with_reducible rfl
      try simp only [Act.put, List.setIfInBounds_toArray, List.set_cons_zero, List.set_cons_succ]
      refine wpAnyH_take (i := 21) (v := ?_) (at_succ (at_succ (at_succ (at_succ (at_succ (at_succ (at_succ (at_succ (at_succ (at_succ (at_succ (at_succ (at_succ (at_succ (at_succ (at_succ (at_succ (at_succ (at_succ (at_succ (at_succ at_zero))))))))))))))))))))) (by kernel_rfl) (by kernel_rfl) (by kernel_rfl) (fun _ _ _ h => HPQ.out _ _ _ _ _ h) (Or.inl ⟨by rfl, ?_⟩) (by assumption) ?_
      rotate_left
      · intro w_ hS_
        try dsimp only at hS_
        go_simp
        all_goals with_reducible rfl
      try simp only [Act.put, List.setIfInBounds_toArray, List.set_cons_zero, List.set_cons_succ]
      refine wpAnyH_take (i := 22) (v := ?_) (at_succ (at_succ (at_succ (at_succ (at_succ (at_succ (at_succ (at_succ (at_succ (at_succ (at_succ (at_succ (at_succ (at_succ (at_succ (at_succ (at_succ (at_succ (at_succ (at_succ (at_succ (at_succ at_zero)))))))))))))))))))))) (by kernel_rfl) (by kernel_rfl) (by kernel_rfl) (fun _ _ _ h => HPQ.out _ _ _ _ _ h) (Or.inl ⟨by rfl, ?_⟩) (by assumption) ?_
      rotate_left
      · intro w_ hS_
        try dsimp only at hS_
        go_simp
        all_goals with_reducible rfl
      try simp only [Act.put, List.setIfInBounds_toArray, List.set_cons_zero, List.set_cons_succ]
      refine wpAnyH_done (by kernel_rfl) ?_ _
      go_wp2_with fail
      go_ret
      exact ⟨rfl, below_then hB hHeld.1 hB.size⟩
    · have HZ := Lib.hid (HAG.out y HV.out)
      refine region_begin (S := fun w' => Below W9.heap.size W9 w' ∧ w'.cell? ⟨g4, 0, none⟩ = some (.slice X y.length xc) ∧ w'.cell? ⟨g6, 0, none⟩ = some (.slice G mg cg) ∧ w'.cell? ⟨g6 + 1, 0, none⟩ = some (.slice U j bb)) (by kernel_rfl) ⟨(Below.refl _ _).drew, b10, b14, b15⟩ (fun _ _ _ _ _ h => h) (fun HPQ hHeld => ?_)
      refine wpAnyH_take (i := 0) (v := ?_) (at_zero) (by kernel_rfl) (by kernel_rfl) (by kernel_rfl) (fun _ _ _ h => HPQ.out _ _ _ _ _ h) (Or.inl ⟨by rfl, ?_⟩) (by assumption) ?_
      rotate_left
      · intro w_ hS_
        try dsimp only at hS_
        go_simp
        all_goals with_reducible rfl
      try simp only [Act.put, List.setIfInBounds_toArray, List.set_cons_zero, List.set_cons_succ]
      refine wpAnyH_take (i := 1) (v := ?_) (at_succ at_zero) (by kernel_rfl) (by kernel_rfl) (by kernel_rfl) (fun _ _ _ h => HPQ.out _ _ _ _ _ h) (Or.inl ⟨by rfl, ?_⟩) (by assumption) ?_
      rotate_left
      · intro w_ hS_
        try dsimp only at hS_
        go_simp
        all_goals with_reducible rfl
      try simp only [Act.put, List.setIfInBounds_toArray, List.set_cons_zero, List.set_cons_succ]
      refine wpAnyH_take (i := 2) (v := ?_) (at_succ (at_succ at_zero)) (by kernel_rfl) (by kernel_rfl) (by kernel_rfl) (fun _ _ _ h => HPQ.out _ _ _ _ _ h) (Or.inl ⟨by rfl, ?_⟩) (by assumption) ?_
      rotate_left
      · intro w_ hS_
        try dsimp only at hS_
        go_simp
        all_goals with_reducible rfl
      try simp only [Act.put, List.setIfInBounds_toArray, List.set_cons_zero, List.set_cons_succ]
      refine wpAnyH_take (i := 3) (v := ?_) (at_succ (at_succ (at_succ at_zero))) (by kernel_rfl) (by kernel_rfl) (by kernel_rfl) (fun _ _ _ h => HPQ.out _ _ _ _ _ h) (Or.inl ⟨by rfl, ?_⟩) (by assumption) ?_
      rotate_left
      · intro w_ hS_
        try dsimp only at hS_
        go_simp
        all_goals with_reducible rfl
      try simp only [Act.put, List.setIfInBounds_toArray, List.set_cons_zero, List.set_cons_succ]
      refine wpAnyH_take (i := 4) (v := ?_) (at_succ (at_succ (at_succ (at_succ at_zero)))) (by kernel_rfl) (by kernel_rfl) (by kernel_rfl) (fun _ _ _ h => HPQ.out _ _ _ _ _ h) (Or.inl ⟨by rfl, ?_⟩) (by assumption) ?_
      rotate_left
      · intro w_ hS_
        try dsimp only at hS_
        go_simp
        all_goals with_reducible rfl
      try simp only [Act.put, List.setIfInBounds_toArray, List.set_cons_zero, List.set_cons_succ]
      refine wpAnyH_take (i := 5) (v := ?_) (at_succ (at_succ (at_succ (at_succ (at_succ at_zero))))) (by kernel_rfl) (by kernel_rfl) (by kernel_rfl) (fun _ _ _ h => HPQ.out _ _ _ _ _ h) (Or.inl ⟨by rfl, ?_⟩) (by assumption) ?_
      rotate_left
      · intro w_ hS_
        try dsimp only at hS_
        go_simp
        all_goals with_reducible rfl
      try simp only [Act.put, List.setIfInBounds_toArray, List.set_cons_zero, List.set_cons_succ]
      refine wpAnyH_take (i := 6) (v := ?_) (at_succ (at_succ (at_succ (at_succ (at_succ (at_succ at_zero)))))) (by kernel_rfl) (by kernel_rfl) (by kernel_rfl) (fun _ _ _ h => HPQ.out _ _ _ _ _ h) (Or.inl ⟨by rfl, ?_⟩) (by assumption) ?_
      rotate_left
      · intro w_ hS_
        try dsimp only at hS_
        go_simp
        all_goals with_reducible rfl
      try simp only [Act.put, List.setIfInBounds_toArray, List.set_cons_zero, List.set_cons_succ]
      refine wpAnyH_take (i := 7) (v := ?_) (at_succ (at_succ (at_succ (at_succ (at_succ (at_succ (at_succ at_zero))))))) (by kernel_rfl) (by kernel_rfl) (by kernel_rfl) (fun _ _ _ h => HPQ.out _ _ _ _ _ h) (Or.inl ⟨by rfl, ?_⟩) (by assumption) ?_
      rotate_left
      · intro w_ hS_
        try dsimp only at hS_
        go_simp
        all_goals with_reducible rfl
      try simp only [Act.put, List.setIfInBounds_toArray, List.set_cons_zero, List.set_cons_succ]
      refine wpAnyH_take (i := 9) (v := ?_) (at_succ (at_succ (at_succ (at_succ (at_succ (at_succ (at_succ (at_succ (at_succ at_zero))))))))) (by kernel_rfl) (by kernel_rfl) (by kernel_rfl) (fun _ _ _ h => HPQ.out _ _ _ _ _ h) (Or.inl ⟨by rfl, ?_⟩) (by assumption) ?_
      rotate_left
      · intro w_ hS_
        try dsimp only at hS_
        go_simp
        all_goals with_reducible rfl
      try simp only [Act.put, List.setIfInBounds_toArray, List.set_cons_zero, List.set_cons_succ]
      refine wpAnyH_ready (rs := [8]) (by kernel_rfl) (by simp) ?_
      refine AllReadyH.cons (at_succ (at_succ (at_succ (at_succ (at_succ (at_succ (at_succ (at_succ at_zero)))))))) (fun K hK => ?_) AllReadyH.nil
      go_simp
      (go_at_call 13; refine (I_SigText X y.length xc y _ (riS hX hHeld) (by omega)).mono ?_; rintro e q1 ⟨rfl, hq1⟩; rw [HZ.out])
      try go_wp2_with fail
      refine hK.out _ _ (keepS3 hq1 (by assumption)) (fun hHeld => ?_)
      clear hK K
      try simp only [Act.put, List.setIfInBounds_toArray, List.set_cons_zero, List.set_cons_succ]
      refine wpAnyH_take (i := 10) (v := ?_) (at_succ (at_succ (at_succ (at_succ (at_succ (at_succ (at_succ (at_succ (at_succ (at_succ at_zero)))))))))) (by kernel_rfl) (by kernel_rfl) (by kernel_rfl) (fun _ _ _ h => HPQ.out _ _ _ _ _ h) (Or.inl ⟨by rfl, ?_⟩) (by assumption) ?_
      rotate_left
      · intro w_ hS_
        try dsimp only at hS_
        go_simp
        all_goals with_reducible rfl
      try simp only [Act.put, List.setIfInBounds_toArray, List.set_cons_zero, List.set_cons_succ]
      refine wpAnyH_take (i := 11) (v := ?_) (at_succ (at_succ (at_succ (at_succ (at_succ (at_succ (at_succ (at_succ (at_succ (at_succ (at_succ at_zero))))))))))) (by kernel_rfl) (by kernel_rfl) (by kernel_rfl) (fun _ _ _ h => HPQ.out _ _ _ _ _ h) (Or.inl ⟨by rfl, ?_⟩) (by assumption) ?_
      rotate_left
      · intro w_ hS_
        try dsimp only at hS_
        go_simp
        all_goals with_reducible rfl
      try simp only [Act.put, List.setIfInBounds_toArray, List.set_cons_zero, List.set_cons_succ]
      refine wpAnyH_take (i := 12) (v := ?_) (at_succ (at_succ (at_succ (at_succ (at_succ (at_succ (at_succ (at_succ (at_succ (at_succ (at_succ (at_succ at_zero)))))))))))) (by kernel_rfl) (by kernel_rfl) (by kernel_rfl) (fun _ _ _ h => HPQ.out _ _ _ _ _ h) (Or.inl ⟨by rfl, ?_⟩) (by assumption) ?_
      rotate_left
      · intro w_ hS_
        try dsimp only at hS_
        go_simp
        all_goals with_reducible rfl
      try simp only [Act.put, List.setIfInBounds_toArray, List.set_cons_zero, List.set_cons_succ]
      refine wpAnyH_take (i := 13) (v := ?_) (at_succ (at_succ (at_succ (at_succ (at_succ (at_succ (at_succ (at_succ (at_succ (at_succ (at_succ (at_succ (at_succ at_zero))))))))))))) (by kernel_rfl) (by kernel_rfl) (by kernel_rfl) (fun _ _ _ h => HPQ.out _ _ _ _ _ h) (Or.inl ⟨by rfl, ?_⟩) (by assumption) ?_
      rotate_left
      · intro w_ hS_
        try dsimp only at hS_
        go_simp
        all_goals with_reducible rfl
      try simp only [Act.put, List.setIfInBounds_toArray, List.set_cons_zero, List.set_cons_succ]
      refine wpAnyH_take (i := 14) (v := ?_) (at_succ (at_succ (at_succ (at_succ (at_succ (at_succ (at_succ (at_succ (at_succ (at_succ (at_succ (at_succ (at_succ (at_succ at_zero)))))))))))))) (by kernel_rfl) (by kernel_rfl) (by kernel_rfl) (fun _ _ _ h => HPQ.out _ _ _ _ _ h) (Or.inl ⟨by rfl, ?_⟩) (by assumption) ?_
      rotate_left
      · intro w_ hS_
        try dsimp only at hS_
        go_simp
        all_goals with_reducible rfl
      try simp only [Act.put, List.setIfInBounds_toArray, List.set_cons_zero, List.set_cons_succ]
      refine wpAnyH_take (i := 15) (v := ?_) (at_succ (at_succ (at_succ (at_succ (at_succ (at_succ (at_succ (at_succ (at_succ (at_succ (at_succ (at_succ (at_succ (at_succ (at_succ at_zero))))))))))))))) (by kernel_rfl) (by kernel_rfl) (by kernel_rfl) (fun _ _ _ h => HPQ.out _ _ _ _ _ h) (Or.inl ⟨by rfl, ?_⟩) (by assumption) ?_
      rotate_left
      · intro w_ hS_
        try dsimp only at hS_
        go_simp
        all_goals with_reducible rfl
      try simp only [Act.put, List.setIfInBounds_toArray, List.set_cons_zero, List.set_cons_succ]
      refine wpAnyH_take (i := 17) (v := ?_) (at_succ (at_succ (at_succ (at_succ (at_succ (at_succ (at_succ (at_succ (at_succ (at_succ (at_succ (at_succ (at_succ (at_succ (at_succ (at_succ (at_succ at_zero))))))))))))))))) (by kernel_rfl) (by kernel_rfl) (by kernel_rfl) (fun _ _ _ h => HPQ.out _ _ _ _ _ h) (Or.inl ⟨by rfl, ?_⟩) (by assumption) ?_
      rotate_left
      · intro w_ hS_
        try dsimp only at hS_
        go_simp
        all_goals with_reducible rfl
      try simp only [Act.put, List.setIfInBounds_toArray, List.set_cons_zero, List.set_cons_succ]
      refine wpAnyH_take (i := 18) (v := ?_) (at_succ (at_succ (at_succ (at_succ (at_succ (at_succ (at_succ (at_succ (at_succ (at_succ (at_succ (at_succ (at_succ (at_succ (at_succ (at_succ (at_succ (at_succ at_zero)))))))))))))))))) (by kernel_rfl) (by kernel_rfl) (by kernel_rfl) (fun _ _ _ h => HPQ.out _ _ _ _ _ h) (Or.inl ⟨by rfl, ?_⟩) (by assumption) ?_
      rotate_left
      · intro w_ hS_
        try dsimp only at hS_
        go_simp
        all_goals with_reducible rfl
      try simp only [Act.put, List.setIfInBounds_toArray, List.set_cons_zero, List.set_cons_succ]
      refine wpAnyH_ready (rs := [16]) (by kernel_rfl) (by simp) ?_
      refine AllReadyH.cons (at_succ (at_succ (at_succ (at_succ (at_succ (at_succ (at_succ (at_succ (at_succ (at_succ (at_succ (at_succ (at_succ (at_succ (at_succ (at_succ at_zero)))))))))))))))) (fun K hK => ?_) AllReadyH.nil
      go_simp
      (go_at_call 14; refine (I_SubstText G mg cg gs U j bb x _ (riS hG4 hHeld) (hU4.below hHeld.1) (by omega) (by omega)).mono ?_; rintro e q2 ⟨rfl, hq2⟩)
      try go_wp2_with fail
      refine hK.out _ _ (keepS3 hq2 (by assumption)) (fun hHeld => ?_)
      clear hK K
      try simp only [Act.put, List.setIfInBounds_toArray, List.set_cons_zero, List.set_cons_succ]
      refine wpAnyH_ready (rs := [19]) (by kernel_rfl) (by simp) ?_
      refine AllReadyH.cons (at_succ (at_succ (at_succ (at_succ (at_succ (at_succ (at_succ (at_succ (at_succ (at_succ (at_succ (at_succ (at_succ (at_succ (at_succ (at_succ (at_succ (at_succ (at_succ at_zero))))))))))))))))))) (fun K hK => ?_) AllReadyH.nil
      go_simp
      (go_at_call 15; refine (S_SubstText G mg cg gs U j bb x _ (riS hG4 hHeld) (hU4.below hHeld.1) (by omega) (by omega)).mono ?_; rintro e q3 ⟨rfl, hq3⟩)
      try go_wp2_with fail
      refine hK.out _ _ (keepS3 hq3 (by assumption)) (fun hHeld => ?_)
      clear hK K
      try simp only [Act.put, List.setIfInBounds_toArray, List.set_cons_zero, List.set_cons_succ]
      refine wpAnyH_take (i := 20) (v := ?_) (at_succ (at_succ (at_succ (at_succ (at_succ (at_succ (at_succ (at_succ (at_succ (at_succ (at_succ (at_succ (at_succ (at_succ (at_succ (at_succ (at_succ (at_succ (at_succ (at_succ at_zero)))))))))))))))))))) (by kernel_rfl) (by kernel_rfl) (by kernel_rfl) (fun _ _ _ h => HPQ.out _ _ _ _ _ h) (Or.inl ⟨by rfl, ?_⟩) (by assumption) ?_
      rotate_left
      · intro w_ hS_
        try dsimp only at hS_
        go_simp
        all_goals with_reducible rfl
      try simp only [Act.put, List.setIfInBounds_toArray, List.set_cons_zero, List.set_cons_succ]
      refine wpAnyH_take (i := 21) (v := ?_) (at_succ (at_succ (at_succ (at_succ (at_succ (at_succ (at_succ (at_succ (at_succ (at_succ (at_succ (at_succ (at_succ (at_succ (at_succ (at_succ (at_succ (at_succ (at_succ (at_succ (at_succ at_zero))))))))))))))))))))) (by kernel_rfl) (by kernel_rfl) (by kernel_rfl) (fun _ _ _ h => HPQ.out _ _ _ _ _ h) (Or.inl ⟨by rfl, ?_⟩) (by assumption) ?_
      rotate_left
      · intro w_ hS_
        try dsimp only at hS_
        go_simp
        all_goals with_reducible rfl
      try simp only [Act.put, List.setIfInBounds_toArray, List.set_cons_zero, List.set_cons_succ]
      refine wpAnyH_take (i := 22) (v := ?_) (at_succ (at_succ (at_succ (at_succ (at_succ (at_succ (at_succ (at_succ (at_succ (at_succ (at_succ (at_succ (at_succ (at_succ (at_succ (at_succ (at_succ (at_succ (at_succ (at_succ (at_succ (at_succ at_zero)))))))))))))))))))))) (by kernel_rfl) (by kernel_rfl) (by kernel_rfl) (fun _ _ _ h => HPQ.out _ _ _ _ _ h) (Or.inl ⟨by rfl, ?_⟩) (by assumption) ?_
      rotate_left
      · intro w_ hS_
        try dsimp only at hS_
        go_simp
        all_goals with_reducible rfl
      try simp only [Act.put, List.setIfInBounds_toArray, List.set_cons_zero, List.set_cons_succ]
      refine wpAnyH_done (by kernel_rfl) ?_ _
      go_wp2_with fail
      go_ret
      exact ⟨rfl, below_then hB hHeld.1 hB.size⟩
  · have HZ0 := Lib.hid (HAG.out l r HV.out)
    clear HAG HV
    go_wp2_with fail
    generalize w3.alloc (.cells #[.slice P2 l.length pc2, .slice Q2 r.length qc2] 30) = W3 at *
    refine (I_RuleText S m d' xs P l.length pc l Q r.length qc r W3 hS hP hQ (by omega) (by omega)).mono ?_
    rintro e w4 ⟨rfl, hb4⟩
    rw [HZ0.out]
    replace h := h.below hb4
    replace hM := hM.below hb4
    replace hB := below_then hB hb4 hB.size
    clear hb4
    clear hS hP hQ bx by0 by1 HZ0
    go_wp2_with fail
    refine (DrawTextSig_any A n c w4 h hn2).mono ?_
    rintro e u1 ⟨v, rfl, hv, hb1⟩
    replace h := h.below hb1
    replace hM := hM.below hb1
    replace hB := below_then hB hb1 hB.size
    clear hb1
    go_wp2_with fail
    refine (I_TextSig v u1 (by omega) hM).mono ?_
    rintro e u2 ⟨X, xc, rfl, hX, hb2⟩
    replace h := h.below hb2
    replace hB := below_then hB hb2 hB.size
    clear hb2
    have hxl := bd_TextSig v
    have hag := fun y (hv : V_TextSig v = (y, true)) => sigAgain hv
    have HAG := Lib.hid hag
    obtain ⟨⟨y, b⟩, hvv⟩ : ∃ z, V_TextSig v = z := ⟨_, rfl⟩
    have HV := Lib.hid hvv
    rw [hvv] at hX hxl ⊢
    clear hag hvv hM
    dsimp only at hX hxl ⊢
    replace hX := hX.ri
    have b10 : (u2.alloc (.cells #[.slice X y.length xc] 26)).cell? ⟨u2.heap.size, 0, none⟩ = some (.slice X y.length xc) := (Blk.new u2 26 #[.slice X y.length xc]).cell 0
    go_wp2_with fail
    replace hX := hX.alloc (.cells #[.slice X y.length xc] 26)
    replace h := h.below ((Below.refl _ _).alloc (Nat.le_refl _) (.cells #[.slice X y.length xc] 26))
    replace hB := hB.alloc hB.size (.cells #[.slice X y.length xc] 26)
    generalize u2.alloc (.cells #[.slice X y.length xc] 26) = U2 at *
    generalize u2.heap.size = g4 at *
    refine (S_TextSig v U2 (by omega)).mono ?_
    rw [HV.out]
    rintro e u3 ⟨Y, yc, rfl, hY, hb3⟩
    replace h := h.below hb3
    replace hX := hX.below hb3
    replace b10 := keepC hb3 b10
    replace hB := below_then hB hb3 hB.size
    clear hb3
    clear hY
    have hal : Below u3.heap.size u3 (u3.alloc (.cells #[.slice Y y.length yc] 26)) := (Below.refl _ _).alloc (Nat.le_refl _) _
    replace h := h.below hal
    replace hX := hX.below hal
    replace b10 := keepC hal b10
    replace hB := below_then hB hal hB.size
    clear hal
    go_wp2_with fail
    generalize u3.alloc (.cells #[.slice Y y.length yc] 26) = U3 at *
    refine (DrawSubstText_any A n c U3 h hn2).mono ?_
    rintro e u4 ⟨G, mg, cg, gs, U, j, bb, x, rfl, hG, hmg, ⟨hU, hwt, hj⟩, hb4⟩
    replace hX := hX.below hb4
    replace b10 := keepC hb4 b10
    replace hB := below_then hB hb4 hB.size
    clear hb4
    clear h
    have hal2 : Below u4.heap.size u4 ((u4.alloc (.cells #[.slice G mg cg] 26)).alloc (.cells #[.slice U j bb] 39)) := ((Below.refl _ _).alloc (Nat.le_refl _) _).alloc (by simp) _
    have b14 : ((u4.alloc (.cells #[.slice G mg cg] 26)).alloc (.cells #[.slice U j bb] 39)).cell? ⟨u4.heap.size, 0, none⟩ = some (.slice G mg cg) := ((Blk.new u4 26 #[.slice G mg cg]).alloc (.cells #[.slice U j bb] 39)).cell 0
    have b15 : ((u4.alloc (.cells #[.slice G mg cg] 26)).alloc (.cells #[.slice U j bb] 39)).cell? ⟨u4.heap.size + 1, 0, none⟩ = some (.slice U j bb) := by
      have k_ := (Blk.new (u4.alloc (.cells #[.slice G mg cg] 26)) 39 #[.slice U j bb]).cell 0
      simpa only [World.size_alloc, List.getElem?_toArray, List.getElem?_cons_zero] using k_
    have hG4 := hG.below hal2
    have hU4 := hU.below hal2
    replace hX := hX.below hal2
    replace b10 := keepC hal2 b10
    replace hB := below_then hB hal2 hB.size
    clear hal2
    clear hG hU
    go_wp2_with fail
    generalize (u4.alloc (.cells #[.slice G mg cg] 26)).alloc (.cells #[.slice U j bb] 39) = W9 at *
    generalize u4.heap.size = g6 at *
    cases b
    · refine region_begin (S := fun w' => Below W9.heap.size W9 w' ∧ w'.cell? ⟨g4, 0, none⟩ = some (.slice X y.length xc) ∧ w'.cell? ⟨g6, 0, none⟩ = some (.slice G mg cg) ∧ w'.cell? ⟨g6 + 1, 0, none⟩ = some (.slice U j bb)) (by kernel_rfl) ⟨(Below.refl _ _).drew, b10, b14, b15⟩ (fun _ _ _ _ _ h => h) (fun HPQ hHeld => ?_)
      refine wpAnyH_take (i := 0) (v := ?_) (at_zero) (by kernel_rfl) (by kernel_rfl) (by kernel_rfl) (fun _ _ _ h => HPQ.out _ _ _ _ _ h) (Or.inl ⟨by rfl, ?_⟩) (by assumption) ?_
      rotate_left
      · intro w_ hS_
        try dsimp only at hS_
        go_simp
        all_goals with_reducible rfl
      try simp only [Act.put, List.setIfInBounds_toArray, List.set_cons_zero, List.set_cons_succ]
      refine wpAnyH_take (i := 1) (v := ?_) (at_succ at_zero) (by kernel_rfl) (by kernel_rfl) (by kernel_rfl) (fun _ _ _ h => HPQ.out _ _ _ _ _ h) (Or.inl ⟨by rfl, ?_⟩) (by assumption) ?_
      rotate_left
      · intro w_ hS_
        try dsimp only at hS_
        go_simp
        all_goals with_reducible rfl
      try simp only [Act.put, List.setIfInBounds_toArray, List.set_cons_zero, List.set_cons_succ]
      refine wpAnyH_take (i := 2) (v := ?_) (at_succ (at_succ at_zero)) (by kernel_rfl) (by kernel_rfl) (by kernel_rfl) (fun _ _ _ h => HPQ.out _ _ _ _ _ h) (Or.inl ⟨by rfl, ?_⟩) (by assumption) ?_
      rotate_left
      · intro w_ hS_
        try dsimp only at hS_
        go_simp
        all_goals with_reducible rfl
      try simp only [Act.put, List.setIfInBounds_toArray, List.set_cons_zero, List.set_cons_succ]
      refine wpAnyH_take (i := 3) (v := ?_) (at_succ (at_succ (at_succ at_zero))) (by kernel_rfl) (by kernel_rfl) (by kernel_rfl) (fun _ _ _ h => HPQ.out _ _ _ _ _ h) (Or.inl ⟨by rfl, ?_⟩) (by assumption) ?_
      rotate_left
      · intro w_ hS_
        try dsimp only at hS_
        go_simp
        all_goals with_reducible rfl
      try simp only [Act.put, List.setIfInBounds_toArray, List.set_cons_zero, List.set_cons_succ]
      refine wpAnyH_take (i := 4) (v := ?_) (at_succ (at_succ (at_succ (at_succ at_zero)))) (by kernel_rfl) (by kernel_rfl) (by kernel_rfl) (fun _ _ _ h => HPQ.out _ _ _ _ _ h) (Or.inl ⟨by rfl, ?_⟩) (by assumption) ?_
      rotate_left
      · intro w_ hS_
        try dsimp only at hS_
        go_simp
        all_goals with_reducible rfl
      try simp only [Act.put, List.setIfInBounds_toArray, List.set_cons_zero, List.set_cons_succ]
      refine wpAnyH_take (i := 5) (v := ?_) (at_succ (at_succ (at_succ (at_succ (at_succ at_zero))))) (by kernel_rfl) (by kernel_rfl) (by kernel_rfl) (fun _ _ _ h => HPQ.out _ _ _ _ _ h) (Or.inl ⟨by rfl, ?_⟩) (by assumption) ?_
      rotate_left
      · intro w_ hS_
        try dsimp only at hS_
        go_simp
        all_goals with_reducible rfl
      try simp only [Act.put, List.setIfInBounds_toArray, List.set_cons_zero, List.set_cons_succ]
      refine wpAnyH_take (i := 6) (v := ?_) (at_succ (at_succ (at_succ (at_succ (at_succ (at_succ at_zero)))))) (by kernel_rfl) (by kernel_rfl) (by kernel_rfl) (fun _ _ _ h => HPQ.out _ _ _ _ _ h) (Or.inl ⟨by rfl, ?_⟩) (by assumption) ?_
      rotate_left
      · intro w_ hS_
        try dsimp only at hS_
        go_simp
        all_goals with_reducible rfl
      try simp only [Act.put, List.setIfInBounds_toArray, List.set_cons_zero, List.set_cons_succ]
      first
        | refine wpAnyH_take (i := 7) (v := undef) (at_succ (at_succ (at_succ (at_succ (at_succ (at_succ (at_succ at_zero))))))) (by kernel_rfl) (by kernel_rfl) (by kernel_rfl) (fun _ _ _ h => HPQ.out _ _ _ _ _ h) (Or.inr ⟨by kernel_rfl, rfl⟩) (by assumption) ?_
        | (refine wpAnyH_ready (rs := [7]) (by kernel_rfl) (by simp) ?_; refine AllReadyH.cons (at_succ (at_succ (at_succ (at_succ (at_succ (at_succ (at_succ at_zero))))))) (fun K hK => ?_) AllReadyH.nil; refine step_unwanted (by kernel_rfl) ?_; refine hK.out _ _ (by assumption) (fun hHeld => ?_); clear hK K)
      try simp only [Act.put, List.setIfInBounds_toArray, List.set_cons_zero, List.set_cons_succ]
      first
        | refine wpAnyH_take (i := 9) (v := undef) (at_succ (at_succ (at_succ (at_succ (at_succ (at_succ (at_succ (at_succ (at_succ at_zero))))))))) (by kernel_rfl) (by kernel_rfl) (by kernel_rfl) (fun _ _ _ h => HPQ.out _ _ _ _ _ h) (Or.inr ⟨by kernel_rfl, rfl⟩) (by assumption) ?_
        | (refine wpAnyH_ready (rs := [9]) (by kernel_rfl) (by simp) ?_; refine AllReadyH.cons (at_succ (at_succ (at_succ (at_succ (at_succ (at_succ (at_succ (at_succ (at_succ at_zero))))))))) (fun K hK => ?_) AllReadyH.nil; refine step_unwanted (by kernel_rfl) ?_; refine hK.out _ _ (by assumption) (fun hHeld => ?_); clear hK K)
      try simp only [Act.put, List.setIfInBounds_toArray, List.set_cons_zero, List.set_cons_succ]
      first
        | refine wpAnyH_take (i := 8) (v := undef) (at_succ (at_succ (at_succ (at_succ (at_succ (at_succ (at_succ (at_succ at_zero)))))))) (by kernel_rfl) (by kernel_rfl) (by kernel_rfl) (fun _ _ _ h => HPQ.out _ _ _ _ _ h) (Or.inr ⟨by kernel_rfl, rfl⟩) (by assumption) ?_
        | (refine wpAnyH_ready (rs := [8]) (by kernel_rfl) (by simp) ?_; refine AllReadyH.cons (at_succ (at_succ (at_succ (at_succ (at_succ (at_succ (at_succ (at_succ at_zero)))))))) (fun K hK => ?_) AllReadyH.nil; refine step_unwanted (by kernel_rfl) ?_; refine hK.out _ _ (by assumption) (fun hHeld => ?_); clear hK K)
      try simp only [Act.put, List.setIfInBounds_toArray, List.set_cons_zero, List.set_cons_succ]
      first
        | refine wpAnyH_take (i := 10) (v := undef) (at_succ (at_succ (at_succ (at_succ (at_succ (at_succ (at_succ (at_succ (at_succ (at_succ at_zero)))))))))) (by kernel_rfl) (by kernel_rfl) (by kernel_rfl) (fun _ _ _ h => HPQ.out _ _ _ _ _ h) (Or.inr ⟨by kernel_rfl, rfl⟩) (by assumption) ?_
        | (refine wpAnyH_ready (rs := [10]) (by kernel_rfl) (by simp) ?_; refine AllReadyH.cons (at_succ (at_succ (at_succ (at_succ (at_succ (at_succ (at_succ (at_succ (at_succ (at_succ at_zero)))))))))) (fun K hK => ?_) AllReadyH.nil; refine step_unwanted (by kernel_rfl) ?_; refine hK.out _ _ (by assumption) (fun hHeld => ?_); clear hK K)
      try simp only [Act.put, List.setIfInBounds_toArray, List.set_cons_zero, List.set_cons_succ]
      refine wpAnyH_take (i := 11) (v := ?_) (at_succ (at_succ (at_succ (at_succ (at_succ (at_succ (at_succ (at_succ (at_succ (at_succ (at_succ at_zero))))))))))) (by kernel_rfl) (by kernel_rfl) (by kernel_rfl) (fun _ _ _ h => HPQ.out _ _ _ _ _ h) (Or.inl ⟨by rfl, ?_⟩) (by assumption) ?_
      rotate_left
      · intro w_ hS_
        try dsimp only at hS_
        go_simp
        all_goals with_reducible rfl
      try simp only [Act.put, List.setIfInBounds_toArray, List.set_cons_zero, List.set_cons_succ]
      refine wpAnyH_take (i := 12) (v := ?_) (at_succ (at_succ (at_succ (at_succ (at_succ (at_succ (at_succ (at_succ (at_succ (at_succ (at_succ (at_succ at_zero)))))))))))) (by kernel_rfl) (by kernel_rfl) (by kernel_rfl) (fun _ _ _ h => HPQ.out _ _ _ _ _ h) (Or.inl ⟨by rfl, ?_⟩) (by assumption) ?_
      rotate_left
      · intro w_ hS_
        try dsimp only at hS_
        go_simp
        all_goals with_reducible rfl
      try simp only [Act.put, List.setIfInBounds_toArray, List.set_cons_zero, List.set_cons_succ]
      refine wpAnyH_take (i := 13) (v := ?_) (at_succ (at_succ (at_succ (at_succ (at_succ (at_succ (at_succ (at_succ (at_succ (at_succ (at_succ (at_succ (at_succ at_zero))))))))))))) (by kernel_rfl) (by kernel_rfl) (by kernel_rfl) (fun _ _ _ h => HPQ.out _ _ _ _ _ h) (Or.inl ⟨by rfl, ?_⟩) (by assumption) ?_
      rotate_left
      · intro w_ hS_
        try dsimp only at hS_
        go_simp
        all_goals with_reducible rfl
      try simp only [Act.put, List.setIfInBounds_toArray, List.set_cons_zero, List.set_cons_succ]
      refine wpAnyH_take (i := 14) (v := ?_) (at_succ (at_succ (at_succ (at_succ (at_succ (at_succ (at_succ (at_succ (at_succ (at_succ (at_succ (at_succ (at_succ (at_succ at_zero)))))))))))))) (by kernel_rfl) (by kernel_rfl) (by kernel_rfl) (fun _ _ _ h => HPQ.out _ _ _ _ _ h) (Or.inl ⟨by rfl, ?_⟩) (by assumption) ?_
      rotate_left
      · intro w_ hS_
        try dsimp only at hS_
        go_simp
        all_goals with_reducible rfl
      try simp only [Act.put, List.setIfInBounds_toArray, List.set_cons_zero, List.set_cons_succ]
      refine wpAnyH_take (i := 15) (v := ?_) (at_succ (at_succ (at_succ (at_succ (at_succ (at_succ (at_succ (at_succ (at_succ (at_succ (at_succ (at_succ (at_succ (at_succ (at_succ at_zero))))))))))))))) (by kernel_rfl) (by kernel_rfl) (by kernel_rfl) (fun _ _ _ h => HPQ.out _ _ _ _ _ h) (Or.inl ⟨by rfl, ?_⟩) (by assumption) ?_
      rotate_left
      · intro w_ hS_
        try dsimp only at hS_
        go_simp
        all_goals with_reducible rfl
      try simp only [Act.put, List.setIfInBounds_toArray, List.set_cons_zero, List.set_cons_succ]
      refine wpAnyH_take (i := 17) (v := ?_) (at_succ (at_succ (at_succ (at_succ (at_succ (at_succ (at_succ (at_succ (at_succ (at_succ (at_succ (at_succ (at_succ (at_succ (at_succ (at_succ (at_succ at_zero))))))))))))))))) (by kernel_rfl) (by kernel_rfl) (by kernel_rfl) (fun _ _ _ h => HPQ.out _ _ _ _ _ h) (Or.inl ⟨by rfl, ?_⟩) (by assumption) ?_
      rotate_left
      · intro w_ hS_
        try dsimp only at hS_
        go_simp
        all_goals with_reducible rfl
      try simp only [Act.put, List.setIfInBounds_toArray, List.set_cons_zero, List.set_cons_succ]
      refine wpAnyH_take (i := 18) (v := ?_) (at_succ (at_succ (at_succ (at_succ (at_succ (at_succ (at_succ (at_succ (at_succ (at_succ (at_succ (at_succ (at_succ (at_succ (at_succ (at_succ (at_succ (at_succ at_zero)))))))))))))))))) (by kernel_rfl) (by kernel_rfl) (by kernel_rfl) (fun _ _ _ h => HPQ.out _ _ _ _ _ h) (Or.inl ⟨by rfl, ?_⟩) (by assumption) ?_
      rotate_left
      · intro w_ hS_
        try dsimp only at hS_
        go_simp
        all_goals with_reducible rfl
      try simp only [Act.put, List.setIfInBounds_toArray, List.set_cons_zero, List.set_cons_succ]
      refine wpAnyH_ready (rs := [16]) (by kernel_rfl) (by simp) ?_
      refine AllReadyH.cons (at_succ (at_succ (at_succ (at_succ (at_succ (at_succ (at_succ (at_succ (at_succ (at_succ (at_succ (at_succ (at_succ (at_succ (at_succ (at_succ at_zero)))))))))))))))) (fun K hK => ?_) AllReadyH.nil
      go_simp
      (go_at_call 14; refine (I_SubstText G mg cg gs U j bb x _ (riS hG4 hHeld) (hU4.below hHeld.1) (by omega) (by omega)).mono ?_; rintro e q2 ⟨rfl, hq2⟩)
      try go_wp2_with fail
      refine hK.out _ _ (keepS3 hq2 (by assumption)) (fun hHeld => ?_)
      clear hK K
      try simp only [Act.put, List.setIfInBounds_toArray, List.set_cons_zero, List.set_cons_succ]
      refine wpAnyH_ready (rs := [19]) (by kernel_rfl) (by simp) ?_
      refine AllReadyH.cons (at_succ (at_succ (at_succ (at_succ (at_succ (at_succ (at_succ (at_succ (at_succ (at_succ (at_succ (at_succ (at_succ (at_succ (at_succ (at_succ (at_succ (at_succ (at_succ at_zero))))))))))))))))))) (fun K hK => ?_) AllReadyH.nil
      go_simp
      (go_at_call 15; refine (S_SubstText G mg cg gs U j bb x _ (riS hG4 hHeld) (hU4.below hHeld.1) (by omega) (by omega)).mono ?_; rintro e q3 ⟨rfl, hq3⟩)
      try go_wp2_with fail
      refine hK.out _ _ (keepS3 hq3 (by assumption)) (fun hHeld => ?_)
      clear hK K
      try simp only [Act.put, List.setIfInBounds_toArray, List.set_cons_zero, List.set_cons_succ]
      refine wpAnyH_take (i := 20) (v := ?_) (at_succ (at_succ (at_succ (at_succ (at_succ (at_succ (at_succ (at_succ (at_succ (at_succ (at_succ (at_succ (at_succ (at_succ (at_succ (at_succ (at_succ (at_succ (at_succ (at_succ at_zero)))))))))))))))))))) (by kernel_rfl) (by kernel_rfl) (by kernel_rfl) (fun _ _ _ h => HPQ.out _ _ _ _ _ h) (Or.inl ⟨by rfl, ?_⟩) (by assumption) ?_
      rotate_left
      · intro w_ hS_
        try dsimp only at hS_
        go_simp
        all_goals with_reducible rfl
      try simp only [Act.put, List.setIfInBounds_toArray, List.set_cons_zero, List.set_cons_succ]
      refine wpAnyH_take (i := 21) (v := ?_) (at_succ (at_succ (at_succ (at_succ (at_succ (at_succ (at_succ (at_succ (at_succ (at_succ (at_succ (at_succ (at_succ (at_succ (at_succ (at_succ (at_succ (at_succ (at_succ (at_succ (at_succ at_zero))))))))))))))))))))) (by kernel_rfl) (by kernel_rfl) (by kernel_rfl) (fun _ _ _ h => HPQ.out _ _ _ _ _ h) (Or.inl ⟨by rfl, ?_⟩) (by assumption) ?_
      rotate_left
      · intro w_ hS_
        try dsimp only at hS_
        go_simp
        all_goals with_reducible rfl
      try simp only [Act.put, List.setIfInBounds_toArray, List.set_cons_zero, List.set_cons_succ]
      refine wpAnyH_take (i := 22) (v := ?_) (at_succ (at_succ (at_succ (at_succ (at_succ (at_succ (at_succ (at_succ (at_succ (at_succ (at_succ (at_succ (at_succ (at_succ (at_succ (at_succ (at_succ (at_succ (at_succ (at_succ (at_succ (at_succ at_zero)))))))))))))))))))))) (by kernel_rfl) (by kernel_rfl) (by kernel_rfl) (fun _ _ _ h => HPQ.out _ _ _ _ _ h) (Or.inl ⟨by rfl, ?_⟩) (by assumption) ?_
      rotate_left
      · intro w_ hS_
        try dsimp only at hS_
        go_simp
        all_goals with_reducible rfl
      try simp only [Act.put, List.setIfInBounds_toArray, List.set_cons_zero, List.set_cons_succ]
      refine wpAnyH_done (by kernel_rfl) ?_ _
      go_wp2_with fail
      go_ret
      exact ⟨rfl, below_then hB hHeld.1 hB.size⟩
    · have HZ := Lib.hid (HAG.out y HV.out)
      refine region_begin (S := fun w' => Below W9.heap.size W9 w' ∧ w'.cell? ⟨g4, 0, none⟩ = some (.slice X y.length xc) ∧ w'.cell? ⟨g6, 0, none⟩ = some (.slice G mg cg) ∧ w'.cell? ⟨g6 + 1, 0, none⟩ = some (.slice U j bb)) (by kernel_rfl) ⟨(Below.refl _ _).drew, b10, b14, b15⟩ (fun _ _ _ _ _ h => h) (fun HPQ hHeld => ?_)
      refine wpAnyH_take (i := 0) (v := ?_) (at_zero) (by kernel_rfl) (by kernel_rfl) (by kernel_rfl) (fun _ _ _ h => HPQ.out _ _ _ _ _ h) (Or.inl ⟨by rfl, ?_⟩) (by assumption) ?_
      rotate_left
      · intro w_ hS_
        try dsimp only at hS_
        go_simp
        all_goals with_reducible rfl
      try simp only [Act.put, List.setIfInBounds_toArray, List.set_cons_zero, List.set_cons_succ]
      refine wpAnyH_take (i := 1) (v := ?_) (at_succ at_zero) (by kernel_rfl) (by kernel_rfl) (by kernel_rfl) (fun _ _ _ h => HPQ.out _ _ _ _ _ h) (Or.inl ⟨by rfl, ?_⟩) (by assumption) ?_
      rotate_left
      · intro w_ hS_
        try dsimp only at hS_
        go_simp
        all_goals with_reducible rfl
      try simp only [Act.put, List.setIfInBounds_toArray, List.set_cons_zero, List.set_cons_succ]
      refine wpAnyH_take (i := 2) (v := ?_) (at_succ (at_succ at_zero)) (by kernel_rfl) (by kernel_rfl) (by kernel_rfl) (fun _ _ _ h => HPQ.out _ _ _ _ _ h) (Or.inl ⟨by rfl, ?_⟩) (by assumption) ?_
      rotate_left
      · intro w_ hS_
        try dsimp only at hS_
        go_simp
        all_goals with_reducible rfl
      try simp only [Act.put, List.setIfInBounds_toArray, List.set_cons_zero, List.set_cons_succ]
      refine wpAnyH_take (i := 3) (v := ?_) (at_succ (at_succ (at_succ at_zero))) (by kernel_rfl) (by kernel_rfl) (by kernel_rfl) (fun _ _ _ h => HPQ.out _ _ _ _ _ h) (Or.inl ⟨by rfl, ?_⟩) (by assumption) ?_
      rotate_left
      · intro w_ hS_
        try dsimp only at hS_
        go_simp
        all_goals with_reducible rfl
      try simp only [Act.put, List.setIfInBounds_toArray, List.set_cons_zero, List.set_cons_succ]
      refine wpAnyH_take (i := 4) (v := ?_) (at_succ (at_succ (at_succ (at_succ at_zero)))) (by kernel_rfl) (by kernel_rfl) (by kernel_rfl) (fun _ _ _ h => HPQ.out _ _ _ _ _ h) (Or.inl ⟨by rfl, ?_⟩) (by assumption) ?_
      rotate_left
      · intro w_ hS_
        try dsimp only at hS_
        go_simp
        all_goals with_reducible rfl
      try simp only [Act.put, List.setIfInBounds_toArray, List.set_cons_zero, List.set_cons_succ]
      refine wpAnyH_take (i := 5) (v := ?_) (at_succ (at_succ (at_succ (at_succ (at_succ at_zero))))) (by kernel_rfl) (by kernel_rfl) (by kernel_rfl) (fun _ _ _ h => HPQ.out _ _ _ _ _ h) (Or.inl ⟨by rfl, ?_⟩) (by assumption) ?_
      rotate_left
      · intro w_ hS_
        try dsimp only at hS_
        go_simp
        all_goals with_reducible rfl
      try simp only [Act.put, List.setIfInBounds_toArray, List.set_cons_zero, List.set_cons_succ]
      refine wpAnyH_take (i := 6) (v := ?_) (at_succ (at_succ (at_succ (at_succ (at_succ (at_succ at_zero)))))) (by kernel_rfl) (by kernel_rfl) (by kernel_rfl) (fun _ _ _ h => HPQ.out _ _ _ _ _ h) (Or.inl ⟨by rfl, ?_⟩) (by assumption) ?_
      rotate_left
      · intro w_ hS_
        try dsimp only at hS_
        go_simp
        all_goals with_reducible rfl
      try simp only [Act.put, List.setIfInBounds_toArray, List.set_cons_zero, List.set_cons_succ]
      refine wpAnyH_take (i := 7) (v := ?_) (at_succ (at_succ (at_succ (at_succ (at_succ (at_succ (at_succ at_zero))))))) (by kernel_rfl) (by kernel_rfl) (by kernel_rfl) (fun _ _ _ h => HPQ.out _ _ _ _ _ h) (Or.inl ⟨by rfl, ?_⟩) (by assumption) ?_
      rotate_left
      · intro w_ hS_
        try dsimp only at hS_
        go_simp
        all_goals with_reducible rfl
      try simp only [Act.put, List.setIfInBounds_toArray, List.set_cons_zero, List.set_cons_succ]
      refine wpAnyH_take (i := 9) (v := ?_) (at_succ (at_succ (at_succ (at_succ (at_succ (at_succ (at_succ (at_succ (at_succ at_zero))))))))) (by kernel_rfl) (by kernel_rfl) (by kernel_rfl) (fun _ _ _ h => HPQ.out _ _ _ _ _ h) (Or.inl ⟨by rfl, ?_⟩) (by assumption) ?_
      rotate_left
      · intro w_ hS_
        try dsimp only at hS_
        go_simp
        all_goals with_reducible rfl
      try simp only [Act.put, List.setIfInBounds_toArray, List.set_cons_zero, List.set_cons_succ]
      refine wpAnyH_ready (rs := [8]) (by kernel_rfl) (by simp) ?_
      refine AllReadyH.cons (at_succ (at_succ (at_succ (at_succ (at_succ (at_succ (at_succ (at_succ at_zero)))))))) (fun K hK => ?_) AllReadyH.nil
      go_simp
      (go_at_call 13; refine (I_SigText X y.length xc y _ (riS hX hHeld) (by omega)).mono ?_; rintro e q1 ⟨rfl, hq1⟩; rw [HZ.out])
      try go_wp2_with fail
      refine hK.out _ _ (keepS3 hq1 (by assumption)) (fun hHeld => ?_)
      clear hK K
      try simp only [Act.put, List.setIfInBounds_toArray, List.set_cons_zero, List.set_cons_succ]
      refine wpAnyH_take (i := 10) (v := ?_) (at_succ (at_succ (at_succ (at_succ (at_succ (at_succ (at_succ (at_succ (at_succ (at_succ at_zero)))))))))) (by kernel_rfl) (by kernel_rfl) (by kernel_rfl) (fun _ _ _ h => HPQ.out _ _ _ _ _ h) (Or.inl ⟨by rfl, ?_⟩) (by assumption) ?_
      rotate_left
      · intro w_ hS_
        try dsimp only at hS_
        go_simp
        all_goals with_reducible rfl
      try simp only [Act.put, List.setIfInBounds_toArray, List.set_cons_zero, List.set_cons_succ]
      refine wpAnyH_take (i := 11) (v := ?_) (at_succ (at_succ (at_succ (at_succ (at_succ (at_succ (at_succ (at_succ (at_succ (at_succ (at_succ at_zero))))))))))) (by kernel_rfl) (by kernel_rfl) (by kernel_rfl) (fun _ _ _ h => HPQ.out _ _ _ _ _ h) (Or.inl ⟨by rfl, ?_⟩) (by assumption) ?_
      rotate_left
      · intro w_ hS_
        try dsimp only at hS_
        go_simp
        all_goals with_reducible rfl
      try simp only [Act.put, List.setIfInBounds_toArray, List.set_cons_zero, List.set_cons_succ]
      refine wpAnyH_take (i := 12) (v := ?_) (at_succ (at_succ (at_succ (at_succ (at_succ (at_succ (at_succ (at_succ (at_succ (at_succ (at_succ (at_succ at_zero)))))))))))) (by kernel_rfl) (by kernel_rfl) (by kernel_rfl) (fun _ _ _ h => HPQ.out _ _ _ _ _ h) (Or.inl ⟨by rfl, ?_⟩) (by assumption) ?_
      rotate_left
      · intro w_ hS_
        try dsimp only at hS_
        go_simp
        all_goals with_reducible rfl
      try simp only [Act.put, List.setIfInBounds_toArray, List.set_cons_zero, List.set_cons_succ]
      refine wpAnyH_take (i := 13) (v := ?_) (at_succ (at_succ (at_succ (at_succ (at_succ (at_succ (at_succ (at_succ (at_succ (at_succ (at_succ (at_succ (at_succ at_zero))))))))))))) (by kernel_rfl) (by kernel_rfl) (by kernel_rfl) (fun _ _ _ h => HPQ.out _ _ _ _ _ h) (Or.inl ⟨by rfl, ?_⟩) (by assumption) ?_
      rotate_left
      · intro w_ hS_
        try dsimp only at hS_
        go_simp
        all_goals with_reducible rfl
      try simp only [Act.put, List.setIfInBounds_toArray, List.set_cons_zero, List.set_cons_succ]
      refine wpAnyH_take (i := 14) (v := ?_) (at_succ (at_succ (at_succ (at_succ (at_succ (at_succ (at_succ (at_succ (at_succ (at_succ (at_succ (at_succ (at_succ (at_succ at_zero)))))))))))))) (by kernel_rfl) (by kernel_rfl) (by kernel_rfl) (fun _ _ _ h => HPQ.out _ _ _ _ _ h) (Or.inl ⟨by rfl, ?_⟩) (by assumption) ?_
      rotate_left
      · intro w_ hS_
        try dsimp only at hS_
        go_simp
        all_goals with_reducible rfl
      try simp only [Act.put, List.setIfInBounds_toArray, List.set_cons_zero, List.set_cons_succ]
      refine wpAnyH_take (i := 15) (v := ?_) (at_succ (at_succ (at_succ (at_succ (at_succ (at_succ (at_succ (at_succ (at_succ (at_succ (at_succ (at_succ (at_succ (at_succ (at_succ at_zero))))))))))))))) (by kernel_rfl) (by kernel_rfl) (by kernel_rfl) (fun _ _ _ h => HPQ.out _ _ _ _ _ h) (Or.inl ⟨by rfl, ?_⟩) (by assumption) ?_
      rotate_left
      · intro w_ hS_
        try dsimp only at hS_
        go_simp
        all_goals with_reducible rfl
      try simp only [Act.put, List.setIfInBounds_toArray, List.set_cons_zero, List.set_cons_succ]
      refine wpAnyH_take (i := 17) (v := ?_) (at_succ (at_succ (at_succ (at_succ (at_succ (at_succ (at_succ (at_succ (at_succ (at_succ (at_succ (at_succ (at_succ (at_succ (at_succ (at_succ (at_succ at_zero))))))))))))))))) (by kernel_rfl) (by kernel_rfl) (by kernel_rfl) (fun _ _ _ h => HPQ.out _ _ _ _ _ h) (Or.inl ⟨by rfl, ?_⟩) (by assumption) ?_
      rotate_left
      · intro w_ hS_
        try dsimp only at hS_
        go_simp
        all_goals with_reducible rfl
      try simp only [Act.put, List.setIfInBounds_toArray, List.set_cons_zero, List.set_cons_succ]
      refine wpAnyH_take (i := 18) (v := ?_) (at_succ (at_succ (at_succ (at_succ (at_succ (at_succ (at_succ (at_succ (at_succ (at_succ (at_succ (at_succ (at_succ (at_succ (at_succ (at_succ (at_succ (at_succ at_zero)))))))))))))))))) (by kernel_rfl) (by kernel_rfl) (by kernel_rfl) (fun _ _ _ h => HPQ.out _ _ _ _ _ h) (Or.inl ⟨by rfl, ?_⟩) (by assumption) ?_
      rotate_left
      · intro w_ hS_
        try dsimp only at hS_
        go_simp
        all_goals with_reducible rfl
      try simp only [Act.put, List.setIfInBounds_toArray, List.set_cons_zero, List.set_cons_succ]
      refine wpAnyH_ready (rs := [16]) (by kernel_rfl) (by simp) ?_
      refine AllReadyH.cons (at_succ (at_succ (at_succ (at_succ (at_succ (at_succ (at_succ (at_succ (at_succ (at_succ (at_succ (at_succ (at_succ (at_succ (at_succ (at_succ at_zero)))))))))))))))) (fun K hK => ?_) AllReadyH.nil
      go_simp
      (go_at_call 14; refine (I_SubstText G mg cg gs U j bb x _ (riS hG4 hHeld) (hU4.below hHeld.1) (by omega) (by omega)).mono ?_; rintro e q2 ⟨rfl, hq2⟩)
      try go_wp2_with fail
      refine hK.out _ _ (keepS3 hq2 (by assumption)) (fun hHeld => ?_)
      clear hK K
      try simp only [Act.put, List.setIfInBounds_toArray, List.set_cons_zero, List.set_cons_succ]
      refine wpAnyH_ready (rs := [19]) (by kernel_rfl) (by simp) ?_
      refine AllReadyH.cons (at_succ (at_succ (at_succ (at_succ (at_succ (at_succ (at_succ (at_succ (at_succ (at_succ (at_succ (at_succ (at_succ (at_succ (at_succ (at_succ (at_succ (at_succ (at_succ at_zero))))))))))))))))))) (fun K hK => ?_) AllReadyH.nil
      go_simp
      (go_at_call 15; refine (S_SubstText G mg cg gs U j bb x _ (riS hG4 hHeld) (hU4.below hHeld.1) (by omega) (by omega)).mono ?_; rintro e q3 ⟨rfl, hq3⟩)
      try go_wp2_with fail
      refine hK.out _ _ (keepS3 hq3 (by assumption)) (fun hHeld => ?_)
      clear hK K
      try simp only [Act.put, List.setIfInBounds_toArray, List.set_cons_zero, List.set_cons_succ]
      refine wpAnyH_take (i := 20) (v := ?_) (at_succ (at_succ (at_succ (at_succ (at_succ (at_succ (at_succ (at_succ (at_succ (at_succ (at_succ (at_succ (at_succ (at_succ (at_succ (at_succ (at_succ (at_succ (at_succ (at_succ at_zero)))))))))))))))))))) (by kernel_rfl) (by kernel_rfl) (by kernel_rfl) (fun _ _ _ h => HPQ.out _ _ _ _ _ h) (Or.inl ⟨by rfl, ?_⟩) (by assumption) ?_
      rotate_left
      · intro w_ hS_
        try dsimp only at hS_
        go_simp
        all_goals with_reducible rfl
      try simp only [Act.put, List.setIfInBounds_toArray, List.set_cons_zero, List.set_cons_succ]
      refine wpAnyH_take (i := 21) (v := ?_) (at_succ (at_succ (at_succ (at_succ (at_succ (at_succ (at_succ (at_succ (at_succ (at_succ (at_succ (at_succ (at_succ (at_succ (at_succ (at_succ (at_succ (at_succ (at_succ (at_succ (at_succ at_zero))))))))))))))))))))) (by kernel_rfl) (by kernel_rfl) (by kernel_rfl) (fun _ _ _ h => HPQ.out _ _ _ _ _ h) (Or.inl ⟨by rfl, ?_⟩) (by assumption) ?_
      rotate_left
      · intro w_ hS_
        try dsimp only at hS_
        go_simp
        all_goals with_reducible rfl
      try simp only [Act.put, List.setIfInBounds_toArray, List.set_cons_zero, List.set_cons_succ]
      refine wpAnyH_take (i := 22) (v := ?_) (at_succ (at_succ (at_succ (at_succ (at_succ (at_succ (at_succ (at_succ (at_succ (at_succ (at_succ (at_succ (at_succ (at_succ (at_succ (at_succ (at_succ (at_succ (at_succ (at_succ (at_succ (at_succ at_zero)))))))))))))))))))))) (by kernel_rfl) (by kernel_rfl) (by kernel_rfl) (fun _ _ _ h => HPQ.out _ _ _ _ _ h) (Or.inl ⟨by rfl, ?_⟩) (by assumption) ?_
      rotate_left
      · intro w_ hS_
        try dsimp only at hS_
        go_simp
        all_goals with_reducible rfl
      try simp only [Act.put, List.setIfInBounds_toArray, List.set_cons_zero, List.set_cons_succ]
      refine wpAnyH_done (by kernel_rfl) ?_ _
      go_wp2_with fail
      go_ret
      exact ⟨rfl, below_then hB hHeld.1 hB.size⟩

theorem own : ownKnob Tryz.prog.godebug = none := by kernel_rfl
theorem laidOut : laidOutB Tryz.prog = true := by kernel_rfl

set_option maxRecDepth 100000 in
theorem lifted (os : Os) (started : os.Started) (H : Type) (enc : TypeId × Value → H) :
    ReturnsInHanded {} Tryz.checked os 3 .any (fun w args => (Rows.fnRuleTextsSpec.pre enc Tryz.prog Tryz.f3 [] false w args ∧ laidMetH Tryz.prog Rows.fnRuleTextsRow.laid w) ∧ sizedMet enc Tryz.prog Tryz.f3 (OpenSpec.ofChange Rows.fnRuleTextsSpec) false w args) (Rows.fnRuleTextsSpec.post enc Tryz.prog Tryz.f3 false true false false) := by
  refine handed_and_shaped (C := Tryz.checked) (X := fun w _ => laidMetH Tryz.prog Rows.fnRuleTextsRow.laid w) (fun _ _ _ hh h => h.of_heap hh) own started (by kernel_rfl) Tryz.func3
    (ChangeSpec.witness_shaped (enc := enc) (C := Tryz.checked) (os := os) (X := fun w _ => laidMetH Tryz.prog Rows.fnRuleTextsRow.laid w) false (World.laidAll Tryz.prog os Rows.fnRuleTextsRow.laid) #[.slice none 0 0] 8 (World.laidAll_os _ _ _)
      (World.shaped_of_ZipB (by kernel_rfl) (by kernel_rfl)) (by kernel_rfl) (by kernel_rfl) (by kernel_rfl)
      (by rw [MakeChecks.laidMetH_plain _ _ _ (by kernel_rfl)]; exact laidMet_laidAll _ (by kernel_rfl) (by kernel_rfl))) ?_
  intro W base args ds gs before hval0 hW hcnd _ hL hShape _
  have hval : ∀ (j : Nat) t v, Tryz.f3.params[j]? = some t → args[j]? = some v → Value.okWide Tryz.prog W .any base t v := hval0
  have hW' := hW
  obtain ⟨p, q, hA0, hV, rfl, hfz, hnd⟩ := hW
  have hA : DataW.TrodAll enc Tryz.prog W 0 (fun _ => true) true Tryz.f3.params.toList args.toList ds p := hA0
  rw [Tryz.params3] at hA hval
  obtain ⟨v0, vs0, d0, ds0, p0, q0, hargs, rfl, rfl, h0, r0⟩ := trodAll_cons hA
  obtain ⟨rfl, rfl, rfl⟩ := trodAll_nil r0
  obtain rfl : args = #[v0] := by cases args; simp_all
  obtain ⟨rfl, rfl⟩ := trodVars_none hV
  have k0 := h0
  have lt0 : ∀ x ∈ p0, x.block < W.heap.size := by obtain ⟨m, hm⟩ := k0; exact DataW.trod_lt m _ _ _ hm
  obtain ⟨A0, n0, c0, rfl, R0, M0⟩ := open_raw Tryz.underlying22 Tryz.underlying5 (by kernel_rfl) (hval 0 22 v0 rfl rfl) h0
  unfold maxLen at M0
  clear hA0 hval0
  refine (walk A0 n0 c0 W R0 (by omega) (ML.of hShape)).mono fun e W' ⟨he, bel⟩ => ?_
  subst he
  exact ⟨_, rfl, _, _, _, [], _, [], hW', trodAll_mk1 (shut_bool Tryz.underlying4 _), (trodAll_cons_mk (Below.trod laidOut (by kernel_rfl) (of_decide_eq_true (by kernel_rfl)) k0 bel lt0) trodAll_mk0), rfl, bel.frame _, fun h => by cases h⟩

theorem over : Rows.fnRuleTextsRow.holds Tryz.pinned (OpenSpec.ofChange Rows.fnRuleTextsSpec) :=
  OpenClaim.holds_of_wide 3 Tryz.f3 rfl rfl rfl rfl rfl rfl rfl ⟨rfl, rfl, rfl, rfl, rfl⟩ rfl rfl rfl rfl rfl (by kernel_rfl) Tryz.func3 (by kernel_rfl)
    (of_decide_eq_true (by kernel_rfl)) (by unfold Func.isWrapper; first | (rw [if_pos (by decide +kernel)]; kernel_rfl) | (rw [if_neg (by decide +kernel)]; exact ⟨rfl, rfl⟩))
    (fun os started H enc _ => lifted os started H enc)

/-- The tied card, out of the row's statement and the given tie. -/
theorem proved : Rows.FnRuleTextsCardSaid :=
  Claim7.holds_tied_plain_at .later [] [.data, .data, .data, .data, .pinned] true _ false
    over (fun _ h => by cases h) (by kernel_rfl) (fun _ h => by cases h) fnRuleTexts_row_tie rfl ⟨rfl, rfl⟩ (by kernel_rfl) rfl
    (fun f fn hf hfn => by
      obtain rfl : f = 3 := Option.some.inj ((show Tryz.prog.funcNamed Rows.fnRuleTextsRow.func = some 3 by kernel_rfl).symm.trans hf) |>.symm
      obtain rfl : fn = Tryz.f3 := (Option.some.inj (Tryz.func3.symm.trans hfn)).symm
      exact ⟨by kernel_rfl, fun j t ht => by
        rw [Tryz.params3] at ht
        have hm : t ∈ [22] := by simpa using Array.mem_of_getElem? ht
        have hall : ([22].all fun u => !Tryz.prog.wantsStandIn u) = true := by kernel_rfl
        exact (show Tryz.prog.wantsStandIn t = false by simpa using List.all_eq_true.1 hall t hm)⟩)
    (by kernel_rfl)
end Go.Proofs.YtlcchafcgidpeaaGreatDoor.lFnRuleTexts
