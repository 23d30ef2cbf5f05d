/- Contracts: do two substitutions replace every variable in the same way? -/
import Derived.Test.YtihgolhpdnoooaaPlu2
import Derived.Test.YtihgolhpdnoooaaTerms
namespace Go.Proofs.Ytihgolhpdnoooaa
open Go.RowKit
set_option linter.unusedVariables false

theorem at_zero {α : Type} {a : α} {l : List α} : (a :: l).toArray[0]? = some a := by simp
theorem at_succ {α : Type} {a o : α} {l : List α} {i : Nat} (h : l.toArray[i]? = some o) : (a :: l).toArray[i + 1]? = some o := by simpa using h
theorem step_unwanted {c : Bool} {A B : Prop} (h : c = false) (hb : B) : if c = true then A else B := by rw [h]; simpa using hb
theorem region_begin {P : Program} {ops : Array Oper} {Q : Exit → Act → World → Prop} {S : World → Prop} {id : Nat} {a : Act} {w : World} (hm : P.follows .mixedOrders = true) (hS : S w.drew) (hq : ∀ c (a : Act) (d : Tmp) (v : Value) (w : World), Q (.panic c) (a.put (some d) v) w → Q (.panic c) a w)
    (h : Hid (∀ c (a : Act) (d : Tmp) (v : Value) (w : World), Q (.panic c) (a.put (some d) v) w → Q (.panic c) a w) → S w.drew → wpAnyH P .any ops Q S ops.size (Array.replicate ops.size false) a w.drew) : (Code.region id ops true).wp P Q a w :=
  wp_region_held_drew hm hS (h (Lib.hid hq))
def sameSubst (xs : List Int) (x y : List (List Int)) : Bool := substOk xs x && substOk xs y && decide (plainU x = plainU y)
theorem sameSubst_no1 {xs : List Int} {x y : List (List Int)} (h : substOk xs x = false) : sameSubst xs x y = false := by unfold sameSubst; rw [h]; rfl
theorem sameSubst_no2 {xs : List Int} {x y : List (List Int)} (h1 : substOk xs x = true) (h : substOk xs y = false) : sameSubst xs x y = false := by unfold sameSubst; rw [h1, h]; rfl
theorem sameSubst_yes {xs : List Int} {x y : List (List Int)} (h1 : substOk xs x = true) (h : substOk xs y = true) : sameSubst xs x y = decide (plainU x = plainU y) := by unfold sameSubst; rw [h1, h]; rfl
set_option maxHeartbeats 2000000 in
set_option maxRecDepth 20000 in
theorem I_SameSubst (A : Option Addr) (n c : Nat) (xs : List Int) (B : Option Addr) (m d : Nat) (x : List (List Int)) (C : Option Addr) (o f : Nat) (y : List (List Int)) (w : World) (h : RI w A n xs) (h' : RR w B m x) (h'' : RR w C o y) (hn : n ≤ 1048576) (hw : wtR x ≤ 1048576) (hw2 : wtR y ≤ 1048576) :
    Calls Try.prog 46 #[.agg #[.slice A n c], .agg #[.slice B m d], .agg #[.slice C o f]] w fun e w' => e = .returned (.bool (sameSubst xs x y)) ∧ Below w.heap.size w w' := by
  have hl := h'.1
  have hl' := h''.1
  have hB0 : Below w.heap.size w (((w.alloc (.cells #[.slice A n c] 26)).alloc (.cells #[.slice B m d] 51)).alloc (.cells #[.slice C o f] 51)) := (((Below.refl _ _).alloc (Nat.le_refl _) _).alloc (by simp) _).alloc (by simp <;> omega) _
  have bx : (((w.alloc (.cells #[.slice A n c] 26)).alloc (.cells #[.slice B m d] 51)).alloc (.cells #[.slice C o f] 51)).cell? ⟨w.heap.size, 0, none⟩ = some (.slice A n c) := by
    have k := (((Blk.new w 26 #[.slice A n c]).alloc (.cells #[.slice B m d] 51)).alloc (.cells #[.slice C o f] 51)).cell 0
    simpa only [World.size_alloc, List.getElem?_toArray, List.getElem?_cons_zero] using k
  have by0 : (((w.alloc (.cells #[.slice A n c] 26)).alloc (.cells #[.slice B m d] 51)).alloc (.cells #[.slice C o f] 51)).cell? ⟨w.heap.size + 1, 0, none⟩ = some (.slice B m d) := by
    have k := ((Blk.new (w.alloc (.cells #[.slice A n c] 26)) 51 #[.slice B m d]).alloc (.cells #[.slice C o f] 51)).cell 0
    simpa only [World.size_alloc, List.getElem?_toArray, List.getElem?_cons_zero] using k
  have bz : (((w.alloc (.cells #[.slice A n c] 26)).alloc (.cells #[.slice B m d] 51)).alloc (.cells #[.slice C o f] 51)).cell? ⟨w.heap.size + 1 + 1, 0, none⟩ = some (.slice C o f) := by
    have k := (Blk.new ((w.alloc (.cells #[.slice A n c] 26)).alloc (.cells #[.slice B m d] 51)) 51 #[.slice C o f]).cell 0
    simpa only [World.size_alloc, List.getElem?_toArray, List.getElem?_cons_zero] using k
  have hfd : ∀ (D : Option Addr) (i j : Nat) (W : World), (Instr.field 51 (.agg #[.slice D i j]) 0).run Try.prog W = .ok (.slice D i j) W := fun _ _ _ _ => by kernel_rfl
  cases hq1 : substOk xs x
  · have HE := Lib.hid (sameSubst_no1 (y := y) hq1)
    have H1 := Lib.hid hq1
    clear hq1
    go_enter Try.func46, Try.ntmps46
    go_wp2_with fail
    generalize ((w.alloc (.cells #[.slice A n c] 26)).alloc (.cells #[.slice B m d] 51)).alloc (.cells #[.slice C o f] 51) = W0 at *
    refine region_begin (S := fun w' => Below W0.heap.size W0 w' ∧ w'.cell? ⟨w.heap.size, 0, none⟩ = some (.slice A n c) ∧ w'.cell? ⟨w.heap.size + 1, 0, none⟩ = some (.slice B m d) ∧ w'.cell? ⟨w.heap.size + 1 + 1, 0, none⟩ = some (.slice C o f)) (by kernel_rfl) ⟨(Below.refl _ _).drew, bx, by0, bz⟩ (fun _ _ _ _ _ h => h) (fun HPQ hHeld => ?_)
    refine wpAnyH_take (i := 0) (v := ?_) (at_zero) (by kernel_rfl) (by kernel_rfl) (by kernel_rfl) (fun _ _ _ h => HPQ.out _ _ _ _ _ h) (Or.inl ⟨by rfl, ?_⟩) (by assumption) ?_
    rotate_left
    · intro w_ hS_
      try dsimp only at hS_
      go_simp
      all_goals with_reducible rfl
    try simp only [Act.put, List.setIfInBounds_toArray, List.set_cons_zero, List.set_cons_succ]
    refine wpAnyH_take (i := 1) (v := ?_) (at_succ at_zero) (by kernel_rfl) (by kernel_rfl) (by kernel_rfl) (fun _ _ _ h => HPQ.out _ _ _ _ _ h) (Or.inl ⟨by rfl, ?_⟩) (by assumption) ?_
    rotate_left
    · intro w_ hS_
      try dsimp only at hS_
      go_simp
      all_goals with_reducible rfl
    try simp only [Act.put, List.setIfInBounds_toArray, List.set_cons_zero, List.set_cons_succ]
    refine wpAnyH_ready (rs := [2]) (by kernel_rfl) (by simp) ?_
    refine AllReadyH.cons (at_succ (at_succ at_zero)) (fun K hK => ?_) AllReadyH.nil
    go_simp
    (go_at_call 54; refine (implSubstOk_any A n c xs B m d x _ (riS (h.below hB0) (by assumption)) ((h'.below hB0).below (And.left (by assumption))) hn hw).mono ?_; rintro e w1 ⟨rfl, hb1⟩; rw [H1.out])
    try go_wp2_with fail
    refine hK.out _ _ (keepS3 hb1 (by assumption)) (fun hHeld => ?_)
    clear hK K
    try simp only [Act.put, List.setIfInBounds_toArray, List.set_cons_zero, List.set_cons_succ]
    refine wpAnyH_take (i := 3) (v := ?_) (at_succ (at_succ (at_succ at_zero))) (by kernel_rfl) (by kernel_rfl) (by kernel_rfl) (fun _ _ _ h => HPQ.out _ _ _ _ _ h) (Or.inl ⟨by rfl, ?_⟩) (by assumption) ?_
    rotate_left
    · intro w_ hS_
      try dsimp only at hS_
      go_simp
      all_goals with_reducible rfl
    try simp only [Act.put, List.setIfInBounds_toArray, List.set_cons_zero, List.set_cons_succ]
    first
      | refine wpAnyH_take (i := 4) (v := undef) (at_succ (at_succ (at_succ (at_succ at_zero)))) (by kernel_rfl) (by kernel_rfl) (by kernel_rfl) (fun _ _ _ h => HPQ.out _ _ _ _ _ h) (Or.inr ⟨by kernel_rfl, rfl⟩) (by assumption) ?_
      | (refine wpAnyH_ready (rs := [4]) (by kernel_rfl) (by simp) ?_; refine AllReadyH.cons (at_succ (at_succ (at_succ (at_succ at_zero)))) (fun K hK => ?_) AllReadyH.nil; refine step_unwanted (by kernel_rfl) ?_; refine hK.out _ _ (by assumption) (fun hHeld => ?_); clear hK K)
    try simp only [Act.put, List.setIfInBounds_toArray, List.set_cons_zero, List.set_cons_succ]
    first
      | refine wpAnyH_take (i := 5) (v := undef) (at_succ (at_succ (at_succ (at_succ (at_succ at_zero))))) (by kernel_rfl) (by kernel_rfl) (by kernel_rfl) (fun _ _ _ h => HPQ.out _ _ _ _ _ h) (Or.inr ⟨by kernel_rfl, rfl⟩) (by assumption) ?_
      | (refine wpAnyH_ready (rs := [5]) (by kernel_rfl) (by simp) ?_; refine AllReadyH.cons (at_succ (at_succ (at_succ (at_succ (at_succ at_zero))))) (fun K hK => ?_) AllReadyH.nil; refine step_unwanted (by kernel_rfl) ?_; refine hK.out _ _ (by assumption) (fun hHeld => ?_); clear hK K)
    try simp only [Act.put, List.setIfInBounds_toArray, List.set_cons_zero, List.set_cons_succ]
    first
      | refine wpAnyH_take (i := 6) (v := undef) (at_succ (at_succ (at_succ (at_succ (at_succ (at_succ at_zero)))))) (by kernel_rfl) (by kernel_rfl) (by kernel_rfl) (fun _ _ _ h => HPQ.out _ _ _ _ _ h) (Or.inr ⟨by kernel_rfl, rfl⟩) (by assumption) ?_
      | (refine wpAnyH_ready (rs := [6]) (by kernel_rfl) (by simp) ?_; refine AllReadyH.cons (at_succ (at_succ (at_succ (at_succ (at_succ (at_succ at_zero)))))) (fun K hK => ?_) AllReadyH.nil; refine step_unwanted (by kernel_rfl) ?_; refine hK.out _ _ (by assumption) (fun hHeld => ?_); clear hK K)
    try simp only [Act.put, List.setIfInBounds_toArray, List.set_cons_zero, List.set_cons_succ]
    refine wpAnyH_take (i := 7) (v := ?_) (at_succ (at_succ (at_succ (at_succ (at_succ (at_succ (at_succ at_zero))))))) (by kernel_rfl) (by kernel_rfl) (by kernel_rfl) (fun _ _ _ h => HPQ.out _ _ _ _ _ h) (Or.inl ⟨by rfl, ?_⟩) (by assumption) ?_
    rotate_left
    · intro w_ hS_
      try dsimp only at hS_
      go_simp
      all_goals with_reducible rfl
    try simp only [Act.put, List.setIfInBounds_toArray, List.set_cons_zero, List.set_cons_succ]
    refine wpAnyH_take (i := 8) (v := ?_) (at_succ (at_succ (at_succ (at_succ (at_succ (at_succ (at_succ (at_succ at_zero)))))))) (by kernel_rfl) (by kernel_rfl) (by kernel_rfl) (fun _ _ _ h => HPQ.out _ _ _ _ _ h) (Or.inl ⟨by rfl, ?_⟩) (by assumption) ?_
    rotate_left
    · intro w_ hS_
      try dsimp only at hS_
      go_simp
      all_goals with_reducible rfl
    try simp only [Act.put, List.setIfInBounds_toArray, List.set_cons_zero, List.set_cons_succ]
    first
      | refine wpAnyH_take (i := 9) (v := undef) (at_succ (at_succ (at_succ (at_succ (at_succ (at_succ (at_succ (at_succ (at_succ at_zero))))))))) (by kernel_rfl) (by kernel_rfl) (by kernel_rfl) (fun _ _ _ h => HPQ.out _ _ _ _ _ h) (Or.inr ⟨by kernel_rfl, rfl⟩) (by assumption) ?_
      | (refine wpAnyH_ready (rs := [9]) (by kernel_rfl) (by simp) ?_; refine AllReadyH.cons (at_succ (at_succ (at_succ (at_succ (at_succ (at_succ (at_succ (at_succ (at_succ at_zero))))))))) (fun K hK => ?_) AllReadyH.nil; refine step_unwanted (by kernel_rfl) ?_; refine hK.out _ _ (by assumption) (fun hHeld => ?_); clear hK K)
    try simp only [Act.put, List.setIfInBounds_toArray, List.set_cons_zero, List.set_cons_succ]
    first
      | refine wpAnyH_take (i := 10) (v := undef) (at_succ (at_succ (at_succ (at_succ (at_succ (at_succ (at_succ (at_succ (at_succ (at_succ at_zero)))))))))) (by kernel_rfl) (by kernel_rfl) (by kernel_rfl) (fun _ _ _ h => HPQ.out _ _ _ _ _ h) (Or.inr ⟨by kernel_rfl, rfl⟩) (by assumption) ?_
      | (refine wpAnyH_ready (rs := [10]) (by kernel_rfl) (by simp) ?_; refine AllReadyH.cons (at_succ (at_succ (at_succ (at_succ (at_succ (at_succ (at_succ (at_succ (at_succ (at_succ at_zero)))))))))) (fun K hK => ?_) AllReadyH.nil; refine step_unwanted (by kernel_rfl) ?_; refine hK.out _ _ (by assumption) (fun hHeld => ?_); clear hK K)
    try simp only [Act.put, List.setIfInBounds_toArray, List.set_cons_zero, List.set_cons_succ]
    first
      | refine wpAnyH_take (i := 11) (v := undef) (at_succ (at_succ (at_succ (at_succ (at_succ (at_succ (at_succ (at_succ (at_succ (at_succ (at_succ at_zero))))))))))) (by kernel_rfl) (by kernel_rfl) (by kernel_rfl) (fun _ _ _ h => HPQ.out _ _ _ _ _ h) (Or.inr ⟨by kernel_rfl, rfl⟩) (by assumption) ?_
      | (refine wpAnyH_ready (rs := [11]) (by kernel_rfl) (by simp) ?_; refine AllReadyH.cons (at_succ (at_succ (at_succ (at_succ (at_succ (at_succ (at_succ (at_succ (at_succ (at_succ (at_succ at_zero))))))))))) (fun K hK => ?_) AllReadyH.nil; refine step_unwanted (by kernel_rfl) ?_; refine hK.out _ _ (by assumption) (fun hHeld => ?_); clear hK K)
    try simp only [Act.put, List.setIfInBounds_toArray, List.set_cons_zero, List.set_cons_succ]
    first
      | refine wpAnyH_take (i := 12) (v := undef) (at_succ (at_succ (at_succ (at_succ (at_succ (at_succ (at_succ (at_succ (at_succ (at_succ (at_succ (at_succ at_zero)))))))))))) (by kernel_rfl) (by kernel_rfl) (by kernel_rfl) (fun _ _ _ h => HPQ.out _ _ _ _ _ h) (Or.inr ⟨by kernel_rfl, rfl⟩) (by assumption) ?_
      | (refine wpAnyH_ready (rs := [12]) (by kernel_rfl) (by simp) ?_; refine AllReadyH.cons (at_succ (at_succ (at_succ (at_succ (at_succ (at_succ (at_succ (at_succ (at_succ (at_succ (at_succ (at_succ at_zero)))))))))))) (fun K hK => ?_) AllReadyH.nil; refine step_unwanted (by kernel_rfl) ?_; refine hK.out _ _ (by assumption) (fun hHeld => ?_); clear hK K)
    try simp only [Act.put, List.setIfInBounds_toArray, List.set_cons_zero, List.set_cons_succ]
    first
      | refine wpAnyH_take (i := 13) (v := undef) (at_succ (at_succ (at_succ (at_succ (at_succ (at_succ (at_succ (at_succ (at_succ (at_succ (at_succ (at_succ (at_succ at_zero))))))))))))) (by kernel_rfl) (by kernel_rfl) (by kernel_rfl) (fun _ _ _ h => HPQ.out _ _ _ _ _ h) (Or.inr ⟨by kernel_rfl, rfl⟩) (by assumption) ?_
      | (refine wpAnyH_ready (rs := [13]) (by kernel_rfl) (by simp) ?_; refine AllReadyH.cons (at_succ (at_succ (at_succ (at_succ (at_succ (at_succ (at_succ (at_succ (at_succ (at_succ (at_succ (at_succ (at_succ at_zero))))))))))))) (fun K hK => ?_) AllReadyH.nil; refine step_unwanted (by kernel_rfl) ?_; refine hK.out _ _ (by assumption) (fun hHeld => ?_); clear hK K)
    try simp only [Act.put, List.setIfInBounds_toArray, List.set_cons_zero, List.set_cons_succ]
    first
      | refine wpAnyH_take (i := 14) (v := undef) (at_succ (at_succ (at_succ (at_succ (at_succ (at_succ (at_succ (at_succ (at_succ (at_succ (at_succ (at_succ (at_succ (at_succ at_zero)))))))))))))) (by kernel_rfl) (by kernel_rfl) (by kernel_rfl) (fun _ _ _ h => HPQ.out _ _ _ _ _ h) (Or.inr ⟨by kernel_rfl, rfl⟩) (by assumption) ?_
      | (refine wpAnyH_ready (rs := [14]) (by kernel_rfl) (by simp) ?_; refine AllReadyH.cons (at_succ (at_succ (at_succ (at_succ (at_succ (at_succ (at_succ (at_succ (at_succ (at_succ (at_succ (at_succ (at_succ (at_succ at_zero)))))))))))))) (fun K hK => ?_) AllReadyH.nil; refine step_unwanted (by kernel_rfl) ?_; refine hK.out _ _ (by assumption) (fun hHeld => ?_); clear hK K)
    try simp only [Act.put, List.setIfInBounds_toArray, List.set_cons_zero, List.set_cons_succ]
    first
      | refine wpAnyH_take (i := 15) (v := undef) (at_succ (at_succ (at_succ (at_succ (at_succ (at_succ (at_succ (at_succ (at_succ (at_succ (at_succ (at_succ (at_succ (at_succ (at_succ at_zero))))))))))))))) (by kernel_rfl) (by kernel_rfl) (by kernel_rfl) (fun _ _ _ h => HPQ.out _ _ _ _ _ h) (Or.inr ⟨by kernel_rfl, rfl⟩) (by assumption) ?_
      | (refine wpAnyH_ready (rs := [15]) (by kernel_rfl) (by simp) ?_; refine AllReadyH.cons (at_succ (at_succ (at_succ (at_succ (at_succ (at_succ (at_succ (at_succ (at_succ (at_succ (at_succ (at_succ (at_succ (at_succ (at_succ at_zero))))))))))))))) (fun K hK => ?_) AllReadyH.nil; refine step_unwanted (by kernel_rfl) ?_; refine hK.out _ _ (by assumption) (fun hHeld => ?_); clear hK K)
    try simp only [Act.put, List.setIfInBounds_toArray, List.set_cons_zero, List.set_cons_succ]
    refine wpAnyH_take (i := 16) (v := ?_) (at_succ (at_succ (at_succ (at_succ (at_succ (at_succ (at_succ (at_succ (at_succ (at_succ (at_succ (at_succ (at_succ (at_succ (at_succ (at_succ at_zero)))))))))))))))) (by kernel_rfl) (by kernel_rfl) (by kernel_rfl) (fun _ _ _ h => HPQ.out _ _ _ _ _ h) (Or.inl ⟨by rfl, ?_⟩) (by assumption) ?_
    rotate_left
    · intro w_ hS_
      try dsimp only at hS_
      go_simp
      all_goals with_reducible rfl
    try simp only [Act.put, List.setIfInBounds_toArray, List.set_cons_zero, List.set_cons_succ]
    refine wpAnyH_take (i := 17) (v := ?_) (at_succ (at_succ (at_succ (at_succ (at_succ (at_succ (at_succ (at_succ (at_succ (at_succ (at_succ (at_succ (at_succ (at_succ (at_succ (at_succ (at_succ at_zero))))))))))))))))) (by kernel_rfl) (by kernel_rfl) (by kernel_rfl) (fun _ _ _ h => HPQ.out _ _ _ _ _ h) (Or.inl ⟨by rfl, ?_⟩) (by assumption) ?_
    rotate_left
    · intro w_ hS_
      try dsimp only at hS_
      go_simp
      all_goals with_reducible rfl
    try simp only [Act.put, List.setIfInBounds_toArray, List.set_cons_zero, List.set_cons_succ]
    refine wpAnyH_done (by kernel_rfl) ?_ _
    go_wp2_with fail
    go_ret
    exact ⟨ret_bool HE.out.symm, below_then hB0 hHeld.1 hB0.size⟩
  · cases hq2 : substOk xs y
    · have HE := Lib.hid (sameSubst_no2 hq1 hq2)
      have H1 := Lib.hid hq1
      have H2 := Lib.hid hq2
      clear hq1 hq2
      go_enter Try.func46, Try.ntmps46
      go_wp2_with fail
      generalize ((w.alloc (.cells #[.slice A n c] 26)).alloc (.cells #[.slice B m d] 51)).alloc (.cells #[.slice C o f] 51) = W0 at *
      refine region_begin (S := fun w' => Below W0.heap.size W0 w' ∧ w'.cell? ⟨w.heap.size, 0, none⟩ = some (.slice A n c) ∧ w'.cell? ⟨w.heap.size + 1, 0, none⟩ = some (.slice B m d) ∧ w'.cell? ⟨w.heap.size + 1 + 1, 0, none⟩ = some (.slice C o f)) (by kernel_rfl) ⟨(Below.refl _ _).drew, bx, by0, bz⟩ (fun _ _ _ _ _ h => h) (fun HPQ hHeld => ?_)
      refine wpAnyH_take (i := 0) (v := ?_) (at_zero) (by kernel_rfl) (by kernel_rfl) (by kernel_rfl) (fun _ _ _ h => HPQ.out _ _ _ _ _ h) (Or.inl ⟨by rfl, ?_⟩) (by assumption) ?_
      rotate_left
      · intro w_ hS_
        try dsimp only at hS_
        go_simp
        all_goals with_reducible rfl
      try simp only [Act.put, List.setIfInBounds_toArray, List.set_cons_zero, List.set_cons_succ]
      refine wpAnyH_take (i := 1) (v := ?_) (at_succ at_zero) (by kernel_rfl) (by kernel_rfl) (by kernel_rfl) (fun _ _ _ h => HPQ.out _ _ _ _ _ h) (Or.inl ⟨by rfl, ?_⟩) (by assumption) ?_
      rotate_left
      · intro w_ hS_
        try dsimp only at hS_
        go_simp
        all_goals with_reducible rfl
      try simp only [Act.put, List.setIfInBounds_toArray, List.set_cons_zero, List.set_cons_succ]
      refine wpAnyH_ready (rs := [2]) (by kernel_rfl) (by simp) ?_
      refine AllReadyH.cons (at_succ (at_succ at_zero)) (fun K hK => ?_) AllReadyH.nil
      go_simp
      (go_at_call 54; refine (implSubstOk_any A n c xs B m d x _ (riS (h.below hB0) (by assumption)) ((h'.below hB0).below (And.left (by assumption))) hn hw).mono ?_; rintro e w1 ⟨rfl, hb1⟩; rw [H1.out])
      try go_wp2_with fail
      refine hK.out _ _ (keepS3 hb1 (by assumption)) (fun hHeld => ?_)
      clear hK K
      try simp only [Act.put, List.setIfInBounds_toArray, List.set_cons_zero, List.set_cons_succ]
      refine wpAnyH_take (i := 3) (v := ?_) (at_succ (at_succ (at_succ at_zero))) (by kernel_rfl) (by kernel_rfl) (by kernel_rfl) (fun _ _ _ h => HPQ.out _ _ _ _ _ h) (Or.inl ⟨by rfl, ?_⟩) (by assumption) ?_
      rotate_left
      · intro w_ hS_
        try dsimp only at hS_
        go_simp
        all_goals with_reducible rfl
      try simp only [Act.put, List.setIfInBounds_toArray, List.set_cons_zero, List.set_cons_succ]
      refine wpAnyH_take (i := 4) (v := ?_) (at_succ (at_succ (at_succ (at_succ at_zero)))) (by kernel_rfl) (by kernel_rfl) (by kernel_rfl) (fun _ _ _ h => HPQ.out _ _ _ _ _ h) (Or.inl ⟨by rfl, ?_⟩) (by assumption) ?_
      rotate_left
      · intro w_ hS_
        try dsimp only at hS_
        go_simp
        all_goals with_reducible rfl
      try simp only [Act.put, List.setIfInBounds_toArray, List.set_cons_zero, List.set_cons_succ]
      refine wpAnyH_take (i := 5) (v := ?_) (at_succ (at_succ (at_succ (at_succ (at_succ at_zero))))) (by kernel_rfl) (by kernel_rfl) (by kernel_rfl) (fun _ _ _ h => HPQ.out _ _ _ _ _ h) (Or.inl ⟨by rfl, ?_⟩) (by assumption) ?_
      rotate_left
      · intro w_ hS_
        try dsimp only at hS_
        go_simp
        all_goals with_reducible rfl
      try simp only [Act.put, List.setIfInBounds_toArray, List.set_cons_zero, List.set_cons_succ]
      refine wpAnyH_ready (rs := [6]) (by kernel_rfl) (by simp) ?_
      refine AllReadyH.cons (at_succ (at_succ (at_succ (at_succ (at_succ (at_succ at_zero)))))) (fun K hK => ?_) AllReadyH.nil
      go_simp
      (go_at_call 54; refine (implSubstOk_any A n c xs C o f y _ (riS (h.below hB0) hHeld) ((h''.below hB0).below hHeld.1) hn hw2).mono ?_; rintro e w2 ⟨rfl, hb2⟩; rw [H2.out])
      try go_wp2_with fail
      refine hK.out _ _ (keepS3 hb2 hHeld) (fun hHeld => ?_)
      clear hK K
      try simp only [Act.put, List.setIfInBounds_toArray, List.set_cons_zero, List.set_cons_succ]
      refine wpAnyH_take (i := 7) (v := ?_) (at_succ (at_succ (at_succ (at_succ (at_succ (at_succ (at_succ at_zero))))))) (by kernel_rfl) (by kernel_rfl) (by kernel_rfl) (fun _ _ _ h => HPQ.out _ _ _ _ _ h) (Or.inl ⟨by rfl, ?_⟩) (by assumption) ?_
      rotate_left
      · intro w_ hS_
        try dsimp only at hS_
        go_simp
        all_goals with_reducible rfl
      try simp only [Act.put, List.setIfInBounds_toArray, List.set_cons_zero, List.set_cons_succ]
      refine wpAnyH_take (i := 8) (v := ?_) (at_succ (at_succ (at_succ (at_succ (at_succ (at_succ (at_succ (at_succ at_zero)))))))) (by kernel_rfl) (by kernel_rfl) (by kernel_rfl) (fun _ _ _ h => HPQ.out _ _ _ _ _ h) (Or.inl ⟨by rfl, ?_⟩) (by assumption) ?_
      rotate_left
      · intro w_ hS_
        try dsimp only at hS_
        go_simp
        all_goals with_reducible rfl
      try simp only [Act.put, List.setIfInBounds_toArray, List.set_cons_zero, List.set_cons_succ]
      first
        | refine wpAnyH_take (i := 9) (v := undef) (at_succ (at_succ (at_succ (at_succ (at_succ (at_succ (at_succ (at_succ (at_succ at_zero))))))))) (by kernel_rfl) (by kernel_rfl) (by kernel_rfl) (fun _ _ _ h => HPQ.out _ _ _ _ _ h) (Or.inr ⟨by kernel_rfl, rfl⟩) (by assumption) ?_
        | (refine wpAnyH_ready (rs := [9]) (by kernel_rfl) (by simp) ?_; refine AllReadyH.cons (at_succ (at_succ (at_succ (at_succ (at_succ (at_succ (at_succ (at_succ (at_succ at_zero))))))))) (fun K hK => ?_) AllReadyH.nil; refine step_unwanted (by kernel_rfl) ?_; refine hK.out _ _ (by assumption) (fun hHeld => ?_); clear hK K)
      try simp only [Act.put, List.setIfInBounds_toArray, List.set_cons_zero, List.set_cons_succ]
      first
        | refine wpAnyH_take (i := 10) (v := undef) (at_succ (at_succ (at_succ (at_succ (at_succ (at_succ (at_succ (at_succ (at_succ (at_succ at_zero)))))))))) (by kernel_rfl) (by kernel_rfl) (by kernel_rfl) (fun _ _ _ h => HPQ.out _ _ _ _ _ h) (Or.inr ⟨by kernel_rfl, rfl⟩) (by assumption) ?_
        | (refine wpAnyH_ready (rs := [10]) (by kernel_rfl) (by simp) ?_; refine AllReadyH.cons (at_succ (at_succ (at_succ (at_succ (at_succ (at_succ (at_succ (at_succ (at_succ (at_succ at_zero)))))))))) (fun K hK => ?_) AllReadyH.nil; refine step_unwanted (by kernel_rfl) ?_; refine hK.out _ _ (by assumption) (fun hHeld => ?_); clear hK K)
      try simp only [Act.put, List.setIfInBounds_toArray, List.set_cons_zero, List.set_cons_succ]
      first
        | refine wpAnyH_take (i := 11) (v := undef) (at_succ (at_succ (at_succ (at_succ (at_succ (at_succ (at_succ (at_succ (at_succ (at_succ (at_succ at_zero))))))))))) (by kernel_rfl) (by kernel_rfl) (by kernel_rfl) (fun _ _ _ h => HPQ.out _ _ _ _ _ h) (Or.inr ⟨by kernel_rfl, rfl⟩) (by assumption) ?_
        | (refine wpAnyH_ready (rs := [11]) (by kernel_rfl) (by simp) ?_; refine AllReadyH.cons (at_succ (at_succ (at_succ (at_succ (at_succ (at_succ (at_succ (at_succ (at_succ (at_succ (at_succ at_zero))))))))))) (fun K hK => ?_) AllReadyH.nil; refine step_unwanted (by kernel_rfl) ?_; refine hK.out _ _ (by assumption) (fun hHeld => ?_); clear hK K)
      try simp only [Act.put, List.setIfInBounds_toArray, List.set_cons_zero, List.set_cons_succ]
      first
        | refine wpAnyH_take (i := 12) (v := undef) (at_succ (at_succ (at_succ (at_succ (at_succ (at_succ (at_succ (at_succ (at_succ (at_succ (at_succ (at_succ at_zero)))))))))))) (by kernel_rfl) (by kernel_rfl) (by kernel_rfl) (fun _ _ _ h => HPQ.out _ _ _ _ _ h) (Or.inr ⟨by kernel_rfl, rfl⟩) (by assumption) ?_
        | (refine wpAnyH_ready (rs := [12]) (by kernel_rfl) (by simp) ?_; refine AllReadyH.cons (at_succ (at_succ (at_succ (at_succ (at_succ (at_succ (at_succ (at_succ (at_succ (at_succ (at_succ (at_succ at_zero)))))))))))) (fun K hK => ?_) AllReadyH.nil; refine step_unwanted (by kernel_rfl) ?_; refine hK.out _ _ (by assumption) (fun hHeld => ?_); clear hK K)
      try simp only [Act.put, List.setIfInBounds_toArray, List.set_cons_zero, List.set_cons_succ]
      first
        | refine wpAnyH_take (i := 13) (v := undef) (at_succ (at_succ (at_succ (at_succ (at_succ (at_succ (at_succ (at_succ (at_succ (at_succ (at_succ (at_succ (at_succ at_zero))))))))))))) (by kernel_rfl) (by kernel_rfl) (by kernel_rfl) (fun _ _ _ h => HPQ.out _ _ _ _ _ h) (Or.inr ⟨by kernel_rfl, rfl⟩) (by assumption) ?_
        | (refine wpAnyH_ready (rs := [13]) (by kernel_rfl) (by simp) ?_; refine AllReadyH.cons (at_succ (at_succ (at_succ (at_succ (at_succ (at_succ (at_succ (at_succ (at_succ (at_succ (at_succ (at_succ (at_succ at_zero))))))))))))) (fun K hK => ?_) AllReadyH.nil; refine step_unwanted (by kernel_rfl) ?_; refine hK.out _ _ (by assumption) (fun hHeld => ?_); clear hK K)
      try simp only [Act.put, List.setIfInBounds_toArray, List.set_cons_zero, List.set_cons_succ]
      first
        | refine wpAnyH_take (i := 14) (v := undef) (at_succ (at_succ (at_succ (at_succ (at_succ (at_succ (at_succ (at_succ (at_succ (at_succ (at_succ (at_succ (at_succ (at_succ at_zero)))))))))))))) (by kernel_rfl) (by kernel_rfl) (by kernel_rfl) (fun _ _ _ h => HPQ.out _ _ _ _ _ h) (Or.inr ⟨by kernel_rfl, rfl⟩) (by assumption) ?_
        | (refine wpAnyH_ready (rs := [14]) (by kernel_rfl) (by simp) ?_; refine AllReadyH.cons (at_succ (at_succ (at_succ (at_succ (at_succ (at_succ (at_succ (at_succ (at_succ (at_succ (at_succ (at_succ (at_succ (at_succ at_zero)))))))))))))) (fun K hK => ?_) AllReadyH.nil; refine step_unwanted (by kernel_rfl) ?_; refine hK.out _ _ (by assumption) (fun hHeld => ?_); clear hK K)
      try simp only [Act.put, List.setIfInBounds_toArray, List.set_cons_zero, List.set_cons_succ]
      first
        | refine wpAnyH_take (i := 15) (v := undef) (at_succ (at_succ (at_succ (at_succ (at_succ (at_succ (at_succ (at_succ (at_succ (at_succ (at_succ (at_succ (at_succ (at_succ (at_succ at_zero))))))))))))))) (by kernel_rfl) (by kernel_rfl) (by kernel_rfl) (fun _ _ _ h => HPQ.out _ _ _ _ _ h) (Or.inr ⟨by kernel_rfl, rfl⟩) (by assumption) ?_
        | (refine wpAnyH_ready (rs := [15]) (by kernel_rfl) (by simp) ?_; refine AllReadyH.cons (at_succ (at_succ (at_succ (at_succ (at_succ (at_succ (at_succ (at_succ (at_succ (at_succ (at_succ (at_succ (at_succ (at_succ (at_succ at_zero))))))))))))))) (fun K hK => ?_) AllReadyH.nil; refine step_unwanted (by kernel_rfl) ?_; refine hK.out _ _ (by assumption) (fun hHeld => ?_); clear hK K)
      try simp only [Act.put, List.setIfInBounds_toArray, List.set_cons_zero, List.set_cons_succ]
      refine wpAnyH_take (i := 16) (v := ?_) (at_succ (at_succ (at_succ (at_succ (at_succ (at_succ (at_succ (at_succ (at_succ (at_succ (at_succ (at_succ (at_succ (at_succ (at_succ (at_succ at_zero)))))))))))))))) (by kernel_rfl) (by kernel_rfl) (by kernel_rfl) (fun _ _ _ h => HPQ.out _ _ _ _ _ h) (Or.inl ⟨by rfl, ?_⟩) (by assumption) ?_
      rotate_left
      · intro w_ hS_
        try dsimp only at hS_
        go_simp
        all_goals with_reducible rfl
      try simp only [Act.put, List.setIfInBounds_toArray, List.set_cons_zero, List.set_cons_succ]
      refine wpAnyH_take (i := 17) (v := ?_) (at_succ (at_succ (at_succ (at_succ (at_succ (at_succ (at_succ (at_succ (at_succ (at_succ (at_succ (at_succ (at_succ (at_succ (at_succ (at_succ (at_succ at_zero))))))))))))))))) (by kernel_rfl) (by kernel_rfl) (by kernel_rfl) (fun _ _ _ h => HPQ.out _ _ _ _ _ h) (Or.inl ⟨by rfl, ?_⟩) (by assumption) ?_
      rotate_left
      · intro w_ hS_
        try dsimp only at hS_
        go_simp
        all_goals with_reducible rfl
      try simp only [Act.put, List.setIfInBounds_toArray, List.set_cons_zero, List.set_cons_succ]
      refine wpAnyH_done (by kernel_rfl) ?_ _
      go_wp2_with fail
      go_ret
      exact ⟨ret_bool HE.out.symm, below_then hB0 (And.left (by assumption)) hB0.size⟩
    · have HE := Lib.hid (sameSubst_yes hq1 hq2)
      have H1 := Lib.hid hq1
      have H2 := Lib.hid hq2
      have hm24 : m ≤ 24 := by have := (substOk_iff.1 hq1).2.1; omega
      have ho24 : o ≤ 24 := by have := (substOk_iff.1 hq2).2.1; omega
      have hwp : wtR (plainU x) ≤ 2097152 := by have := plainU_wt (x := x) (n := 24) (m := 60) (by omega) (hasV_len hq1); omega
      have hl1 : (plainU x).length ≤ 1048576 := by have := plainU_len x; omega
      have hl2 : (plainU y).length ≤ 1048576 := by have := plainU_len y; omega
      clear hq1 hq2
      go_enter Try.func46, Try.ntmps46
      go_wp2_with fail
      generalize ((w.alloc (.cells #[.slice A n c] 26)).alloc (.cells #[.slice B m d] 51)).alloc (.cells #[.slice C o f] 51) = W0 at *
      go_region_held3 (fun w' => Below W0.heap.size W0 w' ∧ w'.cell? ⟨w.heap.size, 0, none⟩ = some (.slice A n c) ∧ w'.cell? ⟨w.heap.size + 1, 0, none⟩ = some (.slice B m d) ∧ w'.cell? ⟨w.heap.size + 1 + 1, 0, none⟩ = some (.slice C o f))
        (first | exact ⟨(Below.refl _ _).drew, bx, by0, bz⟩ | exact keepS3 hb1 (by assumption) | exact keepS3 hb2 (by assumption) | exact keepS3 hb3 (by assumption) | exact keepS3 hb4 (by assumption) | exact keepS3 hb5 (by assumption))
        ((first
          | (go_at_call 54; with_reducible (show Calls Try.prog 54 #[.agg #[.slice A n c], .agg #[.slice B m d]] _ _); refine (implSubstOk_any A n c xs B m d x _ (riS (h.below hB0) (by assumption)) ((h'.below hB0).below (And.left (by assumption))) hn hw).mono ?_; rintro e w1 ⟨rfl, hb1⟩; rw [H1.out])
          | (go_at_call 54; with_reducible (show Calls Try.prog 54 #[.agg #[.slice A n c], .agg #[.slice C o f]] _ _); refine (implSubstOk_any A n c xs C o f y _ (riS (h.below hB0) (by assumption)) ((h''.below hB0).below (And.left (by assumption))) hn hw2).mono ?_; rintro e w2 ⟨rfl, hb2⟩; rw [H2.out])
          | (go_at_call 107; with_reducible (show Calls Try.prog 107 #[.agg #[.slice B m d]] _ _); refine (plain_any B m d x _ ((h'.below hB0).below (And.left (by assumption))) hw hm24).mono ?_; rintro e w3 ⟨P1, p1, rfl, o1, hb3⟩)
          | (go_at_call 107; with_reducible (show Calls Try.prog 107 #[.agg #[.slice C o f]] _ _); refine (plain_any C o f y _ ((h''.below hB0).below (And.left (by assumption))) hw2 ho24).mono ?_; rintro e w4 ⟨P2, p2, rfl, o2, hb4⟩)
          | (go_at_call 108; refine (sameTerms_any _ _ _ (plainU x) _ _ _ (plainU y) _ (o1.rd.below hb4) o2.rd hl1 hwp hl2).mono ?_; rintro e w5 ⟨rfl, hb5⟩)))
      go_wp2_with fail
      go_ret
      exact ⟨ret_bool HE.out.symm, below_then hB0 (And.left (by assumption)) hB0.size⟩
theorem gives_len {x : List (List Int)} {i n : Nat} (h : (hasV x i).length ≤ n) (hn : 1 ≤ n) : (gives x i).length ≤ n := by
  unfold gives; split
  · simpa using hn
  · exact h
set_option maxHeartbeats 2000000 in
set_option maxRecDepth 20000 in
theorem S_SameSubst (A : Option Addr) (n c : Nat) (xs : List Int) (B : Option Addr) (m d : Nat) (x : List (List Int)) (C : Option Addr) (o f : Nat) (y : List (List Int)) (w : World) (h : RI w A n xs) (h' : RR w B m x) (h'' : RR w C o y) (hn : n ≤ 1048576) (hw : wtR x ≤ 1048576) (hw2 : wtR y ≤ 1048576) :
    Calls Try.prog 47 #[.agg #[.slice A n c], .agg #[.slice B m d], .agg #[.slice C o f]] w fun e w' => e = .returned (.bool (sameSubst xs x y)) ∧ Below w.heap.size w w' := by
  have hl := h'.1
  have hl' := h''.1
  have hB0 : Below w.heap.size w (((w.alloc (.cells #[.slice A n c] 26)).alloc (.cells #[.slice B m d] 51)).alloc (.cells #[.slice C o f] 51)) := (((Below.refl _ _).alloc (Nat.le_refl _) _).alloc (by simp) _).alloc (by simp <;> omega) _
  have bx : (((w.alloc (.cells #[.slice A n c] 26)).alloc (.cells #[.slice B m d] 51)).alloc (.cells #[.slice C o f] 51)).cell? ⟨w.heap.size, 0, none⟩ = some (.slice A n c) := by
    have k := (((Blk.new w 26 #[.slice A n c]).alloc (.cells #[.slice B m d] 51)).alloc (.cells #[.slice C o f] 51)).cell 0
    simpa only [World.size_alloc, List.getElem?_toArray, List.getElem?_cons_zero] using k
  have by0 : (((w.alloc (.cells #[.slice A n c] 26)).alloc (.cells #[.slice B m d] 51)).alloc (.cells #[.slice C o f] 51)).cell? ⟨w.heap.size + 1, 0, none⟩ = some (.slice B m d) := by
    have k := ((Blk.new (w.alloc (.cells #[.slice A n c] 26)) 51 #[.slice B m d]).alloc (.cells #[.slice C o f] 51)).cell 0
    simpa only [World.size_alloc, List.getElem?_toArray, List.getElem?_cons_zero] using k
  have bz : (((w.alloc (.cells #[.slice A n c] 26)).alloc (.cells #[.slice B m d] 51)).alloc (.cells #[.slice C o f] 51)).cell? ⟨w.heap.size + 1 + 1, 0, none⟩ = some (.slice C o f) := by
    have k := (Blk.new ((w.alloc (.cells #[.slice A n c] 26)).alloc (.cells #[.slice B m d] 51)) 51 #[.slice C o f]).cell 0
    simpa only [World.size_alloc, List.getElem?_toArray, List.getElem?_cons_zero] using k
  cases hq1 : substOk xs x
  · have HE := Lib.hid (sameSubst_no1 (y := y) hq1)
    have H1 := Lib.hid hq1
    clear hq1
    go_enter Try.func47, Try.ntmps47
    go_wp2_with fail
    generalize ((w.alloc (.cells #[.slice A n c] 26)).alloc (.cells #[.slice B m d] 51)).alloc (.cells #[.slice C o f] 51) = W0 at *
    refine (specSubstOk_any A n c xs B m d x _ (h.below hB0) (h'.below hB0) hn hw).mono ?_
    rintro e w1 ⟨rfl, hb1⟩
    rw [H1.out]
    go_wp2_with fail
    go_ret
    exact ⟨ret_bool HE.out.symm, below_then hB0 hb1 hB0.size⟩
  · cases hq2 : substOk xs y
    · have HE := Lib.hid (sameSubst_no2 hq1 hq2)
      have H1 := Lib.hid hq1
      have H2 := Lib.hid hq2
      clear hq1 hq2
      go_enter Try.func47, Try.ntmps47
      go_wp2_with fail
      generalize ((w.alloc (.cells #[.slice A n c] 26)).alloc (.cells #[.slice B m d] 51)).alloc (.cells #[.slice C o f] 51) = W0 at *
      refine (specSubstOk_any A n c xs B m d x _ (h.below hB0) (h'.below hB0) hn hw).mono ?_
      rintro e w1 ⟨rfl, hb1⟩
      rw [H1.out]
      have hB1 := below_then hB0 hb1 hB0.size
      replace bx := keepC hb1 bx
      replace bz := keepC hb1 bz
      go_wp2_with fail
      refine (specSubstOk_any A n c xs C o f y _ (h.below hB1) (h''.below hB1) hn hw2).mono ?_
      rintro e w2 ⟨rfl, hb2⟩
      rw [H2.out]
      go_wp2_with fail
      go_ret
      exact ⟨ret_bool HE.out.symm, below_then hB1 hb2 hB1.size⟩
    · have HE := Lib.hid (sameSubst_yes hq1 hq2)
      have H1 := Lib.hid hq1
      have H2 := Lib.hid hq2
      have HL1 := Lib.hid (hasV_len hq1)
      have HL2 := Lib.hid (hasV_len hq2)
      have HP := Lib.hid (plainU_same (substOk_iff.1 hq1).2.1 (substOk_iff.1 hq2).2.1)
      clear hq1 hq2
      go_enter Try.func47, Try.ntmps47
      go_wp2_with fail
      generalize ((w.alloc (.cells #[.slice A n c] 26)).alloc (.cells #[.slice B m d] 51)).alloc (.cells #[.slice C o f] 51) = W0 at *
      refine (specSubstOk_any A n c xs B m d x _ (h.below hB0) (h'.below hB0) hn hw).mono ?_
      rintro e w1 ⟨rfl, hb1⟩
      rw [H1.out]
      have hB1 := below_then hB0 hb1 hB0.size
      replace bx := keepC hb1 bx
      replace by0 := keepC hb1 by0
      replace bz := keepC hb1 bz
      go_wp2_with fail
      refine (specSubstOk_any A n c xs C o f y _ (h.below hB1) (h''.below hB1) hn hw2).mono ?_
      rintro e w2 ⟨rfl, hb2⟩
      rw [H2.out]
      have hB2 := below_then hB1 hb2 hB1.size
      replace by0 := keepC hb2 by0
      replace bz := keepC hb2 bz
      clear bx hb1 hb2 hB0 hB1
      go_wp2_with fail
      go_loopw [7] (fun i wr => ∃ k : Nat, k ≤ 24 ∧ i = .int .i64 k ∧ Hid (∀ j, j < k → gives x j = gives y j) ∧ Below w2.heap.size w2 wr) (fun i _ => 24 - (intOf i).toNat)
      case atStart => exact ⟨0, by omega, rfl, Lib.hid (fun j hj => by omega), Below.refl _ _⟩
      case round =>
        obtain ⟨k, hk, rfl, hso, hb⟩ := hrel
        have by0' := keepC hb by0
        have bz' := keepC hb bz
        have hBr := below_then hB2 hb hB2.size
        by_cases hlt : k < 24
        · obtain ⟨G1, hG1⟩ : ∃ G, gives x k = G := ⟨_, rfl⟩
          obtain ⟨G2, hG2⟩ : ∃ G, gives y k = G := ⟨_, rfl⟩
          have hg1 : G1.length ≤ 60 := by rw [← hG1]; exact gives_len (HL1.out k) (by omega)
          have hk1 : (k : Int) < 24 := by omega
          have HC1 := Lib.hid (fun W k1 => l2Gives_at B m d x k (k : Int) G1 rfl hG1 W k1 hw (by omega))
          have HC2 := Lib.hid (fun W k1 => l2Gives_at C o f y k (k : Int) G2 rfl hG2 W k1 hw2 (by omega))
          by_cases he : G1 = G2
          · have HS : Hid (∀ j, j < k + 1 → gives x j = gives y j) := Lib.hid (fun j hj => by
              rcases Nat.lt_or_ge j k with hlt | hge
              · exact hso.out j hlt
              · obtain rfl : j = k := by omega
                rw [hG1, hG2, he])
            have HD : Hid (decide (G1 = G2) = true) := Lib.hid (by rw [decide_eq_true_eq]; exact he)
            clear hG1 hG2 he
            go_wp2_with fail
            go_region_held3 (fun w' => Below wr.heap.size wr w' ∧ w'.cell? ⟨w.heap.size + 1, 0, none⟩ = some (.slice B m d) ∧ w'.cell? ⟨w.heap.size + 1 + 1, 0, none⟩ = some (.slice C o f))
              (first | exact ⟨(Below.refl _ _).drew, by0', bz'⟩ | exact keepS2 hb3 (by assumption) | exact keepS2 hb4 (by assumption) | exact keepS2 hb5 (by assumption))
              ((first
                | (go_at_call 109; with_reducible (show Calls Try.prog 109 #[.agg #[.slice B m d], .int .i64 k] _ _); refine (HC1.out _ ((h'.below hBr).below (And.left (by assumption)))).mono ?_; rintro e w3 ⟨P1, p1, rfl, o1, hb3⟩)
                | (go_at_call 109; with_reducible (show Calls Try.prog 109 #[.agg #[.slice C o f], .int .i64 k] _ _); refine (HC2.out _ ((h''.below hBr).below (And.left (by assumption)))).mono ?_; rintro e w4 ⟨P2, p2, rfl, o2, hb4⟩)
                | (go_at_call 27; refine (specSameTerm_any _ _ _ G1 _ _ _ G2 _ (o1.below hb4).ri o2.ri (by omega)).mono ?_; rintro e w5 ⟨rfl, hb5⟩; rw [HD.out])))
            rename_i hS
            have hb6 := hS.1
            clear hS
            go_wp2_with fail
            go_roundw
            case rel => exact ⟨k + 1, by omega, by go_num, HS, below_then hb hb6 hb.size⟩
            case measure => simp [intOf]; omega
          · have HS : Hid (decide (plainU x = plainU y) = false) := Lib.hid (by
              rw [decide_eq_false_iff_not]
              intro e
              exact he (by rw [← hG1, ← hG2]; exact HP.out.1 e k hlt))
            have HD : Hid (decide (G1 = G2) = false) := Lib.hid (by rw [decide_eq_false_iff_not]; exact he)
            clear hG1 hG2 he
            go_wp2_with fail
            go_region_held3 (fun w' => Below wr.heap.size wr w' ∧ w'.cell? ⟨w.heap.size + 1, 0, none⟩ = some (.slice B m d) ∧ w'.cell? ⟨w.heap.size + 1 + 1, 0, none⟩ = some (.slice C o f))
              (first | exact ⟨(Below.refl _ _).drew, by0', bz'⟩ | exact keepS2 hb3 (by assumption) | exact keepS2 hb4 (by assumption) | exact keepS2 hb5 (by assumption))
              ((first
                | (go_at_call 109; with_reducible (show Calls Try.prog 109 #[.agg #[.slice B m d], .int .i64 k] _ _); refine (HC1.out _ ((h'.below hBr).below (And.left (by assumption)))).mono ?_; rintro e w3 ⟨P1, p1, rfl, o1, hb3⟩)
                | (go_at_call 109; with_reducible (show Calls Try.prog 109 #[.agg #[.slice C o f], .int .i64 k] _ _); refine (HC2.out _ ((h''.below hBr).below (And.left (by assumption)))).mono ?_; rintro e w4 ⟨P2, p2, rfl, o2, hb4⟩)
                | (go_at_call 27; refine (specSameTerm_any _ _ _ G1 _ _ _ G2 _ (o1.below hb4).ri o2.ri (by omega)).mono ?_; rintro e w5 ⟨rfl, hb5⟩; rw [HD.out])))
            rename_i hS
            have hb6 := hS.1
            clear hS
            go_wp2_with fail
            go_ret
            exact ⟨ret_bool (by rw [HE.out, HS.out]), below_then hBr hb6 hBr.size⟩
        · have hk24 : k = 24 := by omega
          subst hk24
          have HS : Hid (decide (plainU x = plainU y) = true) := Lib.hid (by rw [decide_eq_true_eq]; exact HP.out.2 hso.out)
          go_wp2_with fail
          go_ret
          exact ⟨ret_bool (by rw [HE.out, HS.out]), hBr⟩
end Go.Proofs.Ytihgolhpdnoooaa
