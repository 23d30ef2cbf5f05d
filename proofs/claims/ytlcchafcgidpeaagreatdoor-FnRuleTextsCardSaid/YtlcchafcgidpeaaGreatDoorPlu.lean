/- Contracts: plain substitutions. -/
import Derived.Test.YtlcchafcgidpeaaGreatDoorFill
import Derived.Deep.RegionLaw
namespace Go.Proofs.YtlcchafcgidpeaaGreatDoor
open Go.RowKit
set_option linter.unusedVariables false

/-- What a row keeps: nothing where the variable stands for itself. -/
def cl1 (i : Nat) (t : List Int) : List Int := if t = [-1 - (i : Int)] then [] else t
/-- The first k rows, each as it is kept. -/
def clR (x : List (List Int)) (k : Nat) : List (List Int) := (List.range k).map fun i => cl1 i (hasV x i)
/-- Empty rows at the end are left out. -/
def trimR (y : List (List Int)) : List (List Int) := (y.reverse.dropWhile fun t => decide (t.length = 0)).reverse
/-- The plain form. -/
def plainU (x : List (List Int)) : List (List Int) := trimR (clR x x.length)

theorem cl1_nil (i : Nat) : cl1 i [] = [] := by simp [cl1]
theorem cl1_self (i : Nat) : cl1 i [-1 - (i : Int)] = [] := if_pos rfl
theorem cl1_other {i : Nat} {t : List Int} (h : t ≠ [-1 - (i : Int)]) : cl1 i t = t := if_neg h
theorem clR_len (x : List (List Int)) (k : Nat) : (clR x k).length = k := by simp [clR]
theorem clR_zero (x : List (List Int)) : clR x 0 = [] := rfl
theorem clR_step (x : List (List Int)) (k : Nat) : clR x (k + 1) = clR x k ++ [cl1 k (hasV x k)] := by simp [clR, List.range_succ]
theorem clR_get (x : List (List Int)) {k i : Nat} (h : i < k) : (clR x k).getD i [] = cl1 i (hasV x i) := by
  simp [clR, List.getD_eq_getElem?_getD, h]
theorem cl1_gives (x : List (List Int)) (i : Nat) : cl1 i (gives x i) = cl1 i (hasV x i) := by
  unfold gives
  split
  · rename_i h
    rw [cl1_self, List.eq_nil_of_length_eq_zero h, cl1_nil]
  · rfl
theorem trimR_nil : trimR [] = [] := rfl
theorem trimR_empty (y : List (List Int)) : trimR (y ++ [[]]) = trimR y := by simp [trimR]
theorem trimR_full (y : List (List Int)) {t : List Int} (h : ¬ t.length = 0) : trimR (y ++ [t]) = y ++ [t] := by
  unfold trimR
  rw [List.reverse_append, List.reverse_singleton, List.singleton_append, List.dropWhile_cons, if_neg (by simpa using h)]
  simp
theorem trimR_pad : ∀ (y : List (List Int)), trimR y ++ List.replicate (y.length - (trimR y).length) [] = y := by
  intro y
  induction hn : y.length generalizing y with
  | zero => have := List.eq_nil_of_length_eq_zero hn; subst this; rfl
  | succ n ih =>
    rcases List.eq_nil_or_concat y with rfl | ⟨z, t, rfl⟩
    · simp at hn
    · have hz : z.length = n := by simpa using hn
      rw [List.concat_eq_append] at hn ⊢
      by_cases ht : t.length = 0
      · obtain rfl := List.eq_nil_of_length_eq_zero ht
        rw [trimR_empty]
        have h2 := ih z hz
        have h3 : (trimR z).length ≤ n := by have := congrArg List.length h2; simp at this; omega
        rw [show n + 1 - (trimR z).length = n - (trimR z).length + 1 by omega, List.replicate_succ', ← List.append_assoc, h2]
      · rw [trimR_full z ht]; simp [hz]
theorem trimR_len (y : List (List Int)) : (trimR y).length ≤ y.length := by
  have := congrArg List.length (trimR_pad y); simp at this; omega
theorem trimR_get (y : List (List Int)) (i : Nat) : (trimR y).getD i [] = y.getD i [] := by
  have h := trimR_pad y
  rw [← congrArg (fun l => l.getD i []) h]
  simp only [List.getD_eq_getElem?_getD]
  by_cases hi : i < (trimR y).length
  · rw [List.getElem?_append_left hi]
  · rw [List.getElem?_append_right (by omega), List.getElem?_eq_none (by omega : (trimR y).length ≤ i), List.getElem?_replicate]
    split <;> rfl
theorem trimR_last (y : List (List Int)) {n : Nat} (h : (trimR y).length = n + 1) : ¬ ((trimR y).getD n []).length = 0 := by
  induction hm : y.length generalizing y with
  | zero => have := List.eq_nil_of_length_eq_zero hm; subst this; simp [trimR_nil] at h
  | succ m ih =>
    rcases List.eq_nil_or_concat y with rfl | ⟨z, t, rfl⟩
    · simp at hm
    · rw [List.concat_eq_append] at h hm ⊢
      by_cases ht : t.length = 0
      · obtain rfl := List.eq_nil_of_length_eq_zero ht
        rw [trimR_empty] at h ⊢
        exact ih z h (by simpa using hm)
      · rw [trimR_full z ht] at h ⊢
        have hz : z.length = n := by simpa using h
        subst hz
        simpa using ht
/-- Rows without an empty end are the same where all places are. -/
theorem trim_ext {a b : List (List Int)} (h : ∀ i, a.getD i [] = b.getD i []) : trimR a = trimR b := by
  have hg : ∀ i, (trimR a).getD i [] = (trimR b).getD i [] := fun i => by rw [trimR_get, trimR_get, h i]
  have hl : (trimR a).length = (trimR b).length := by
    have key : ∀ {p q : List (List Int)}, (∀ i, (trimR p).getD i [] = (trimR q).getD i []) → (trimR p).length ≤ (trimR q).length := by
      intro p q hpq
      cases hp : (trimR p).length with
      | zero => omega
      | succ n =>
        have h1 := trimR_last p hp
        rw [hpq n] at h1
        rcases Nat.lt_or_ge n (trimR q).length with hlt | hge
        · omega
        · rw [List.getD_eq_getElem?_getD, List.getElem?_eq_none hge] at h1; simp at h1
    have := key hg
    have := key (fun i => (hg i).symm)
    omega
  apply List.ext_getElem?
  intro i
  have := hg i
  simp only [List.getD_eq_getElem?_getD] at this
  by_cases hi : i < (trimR a).length
  · rw [List.getElem?_eq_getElem hi, List.getElem?_eq_getElem (by omega : i < (trimR b).length)] at this ⊢
    simpa using this
  · rw [List.getElem?_eq_none (by omega), List.getElem?_eq_none (by omega)]
theorem plainU_get (x : List (List Int)) (i : Nat) : (plainU x).getD i [] = cl1 i (hasV x i) := by
  unfold plainU
  rw [trimR_get]
  by_cases h : i < x.length
  · exact clR_get x h
  · have h1 : hasV x i = [] := by unfold hasV; rw [List.getD_eq_getElem?_getD, List.getElem?_eq_none (by omega)]; rfl
    rw [h1, cl1_nil, List.getD_eq_getElem?_getD, List.getElem?_eq_none (by rw [clR_len]; omega)]; rfl
theorem plainU_ext {a b : List (List Int)} (h : ∀ i, cl1 i (hasV a i) = cl1 i (hasV b i)) : plainU a = plainU b := by
  unfold plainU
  refine trim_ext fun i => ?_
  have h1 := plainU_get a i
  have h2 := plainU_get b i
  unfold plainU at h1 h2
  rw [trimR_get] at h1 h2
  rw [h1, h2, h i]
theorem plainU_iff {a b : List (List Int)} : plainU a = plainU b ↔ ∀ i, cl1 i (hasV a i) = cl1 i (hasV b i) :=
  ⟨fun h i => by rw [← plainU_get, ← plainU_get, h], plainU_ext⟩
theorem gives_cl1 {x y : List (List Int)} {i : Nat} : gives x i = gives y i ↔ cl1 i (hasV x i) = cl1 i (hasV y i) := by
  constructor
  · intro h; rw [← cl1_gives, ← cl1_gives, h]
  · intro h
    have key : ∀ z : List (List Int), gives z i = if cl1 i (hasV z i) = [] then [-1 - (i : Int)] else cl1 i (hasV z i) := by
      intro z
      unfold gives cl1
      by_cases h0 : (hasV z i).length = 0
      · have := List.eq_nil_of_length_eq_zero h0; simp [this]
      · have h1 : hasV z i ≠ [] := fun e => h0 (by rw [e]; rfl)
        rw [if_neg h0]
        by_cases h2 : hasV z i = [-1 - (i : Int)]
        · rw [h2]; simp
        · rw [if_neg h2, if_neg h1]
    rw [key x, key y, h]
theorem hasV_none {x : List (List Int)} {i : Nat} (h : x.length ≤ i) : hasV x i = [] := by
  unfold hasV; rw [List.getD_eq_getElem?_getD, List.getElem?_eq_none h]; rfl
theorem plainU_same {a b : List (List Int)} {n : Nat} (ha : a.length ≤ n) (hb : b.length ≤ n) : plainU a = plainU b ↔ ∀ i, i < n → gives a i = gives b i := by
  rw [plainU_iff]
  constructor
  · exact fun h i _ => gives_cl1.2 (h i)
  · intro h i
    by_cases hi : i < n
    · exact gives_cl1.1 (h i hi)
    · rw [hasV_none (by omega), hasV_none (by omega)]
theorem trim_cut {y : List (List Int)} {j : Nat} (hj : j < y.length) (h : (y.getD j []).length = 0) : trimR (y.take (j + 1)) = trimR (y.take j) := by
  rw [List.take_succ_eq_append_getElem hj]
  rw [List.getD_eq_getElem?_getD, List.getElem?_eq_getElem hj, Option.getD_some] at h
  rw [List.eq_nil_of_length_eq_zero h, trimR_empty]
theorem trim_stop {y : List (List Int)} {j : Nat} (hj : j < y.length) (h : ¬ (y.getD j []).length = 0) : trimR (y.take (j + 1)) = y.take (j + 1) := by
  rw [List.take_succ_eq_append_getElem hj]
  rw [List.getD_eq_getElem?_getD, List.getElem?_eq_getElem hj, Option.getD_some] at h
  exact trimR_full _ h
theorem cl_skip {x : List (List Int)} {k : Nat} (h : cl1 k (hasV x k) = []) : trimR (clR x (k + 1)) = trimR (clR x k) := by rw [clR_step, h, trimR_empty]
theorem cl_keep {x : List (List Int)} {k : Nat} {t : List Int} (h : cl1 k (hasV x k) = t) (ht : ¬ t.length = 0) : trimR (clR x (k + 1)) = clR x k ++ [t] := by rw [clR_step, h, trimR_full _ ht]
/-- The trimmed rows with j empty ones behind. -/
def padR (x : List (List Int)) (k j : Nat) : List (List Int) := trimR (clR x k) ++ List.replicate j []
theorem padR_zero (x : List (List Int)) (k : Nat) : padR x k 0 = trimR (clR x k) := by simp [padR]
theorem padR_step (x : List (List Int)) (k j : Nat) : padR x k (j + 1) = padR x k j ++ [[]] := by simp [padR, List.replicate_succ', List.append_assoc]
theorem padR_len (x : List (List Int)) (k j : Nat) : (padR x k j).length = (trimR (clR x k)).length + j := by simp [padR]
theorem padR_end {x : List (List Int)} {k j : Nat} (h : (trimR (clR x k)).length + j = k) : padR x k j = clR x k := by
  have := trimR_pad (clR x k)
  rw [clR_len] at this
  unfold padR
  rw [show j = k - (trimR (clR x k)).length by omega]; exact this
theorem trimCl_le (x : List (List Int)) (k : Nat) : (trimR (clR x k)).length ≤ k := by have := trimR_len (clR x k); rwa [clR_len] at this
theorem plainU_len (x : List (List Int)) : (plainU x).length ≤ x.length := trimCl_le x x.length
/-- Rows that the call lays, one behind the other, the list that holds them beside them. -/
def OutP (w : World) (B : Nat) (Ao : Option Addr) (k co : Nat) (rs : List (Option Addr × Nat)) (y : List (List Int)) : Prop :=
  w.ownsRow B 24 1 (.slice Ao k co) k (List.zipWith rowV rs y) ∧ Rows w B rs y ∧ y.length = k
theorem ne_types2 : (2 : TypeId) ≠ 24 := by decide
section
variable {w w' w1 : World} {B : Nat} {Ao : Option Addr} {k co : Nat} {rs : List (Option Addr × Nat)} {y : List (List Int)}
theorem OutP.start (w : World) (B : Nat) : OutP w B none 0 0 [] [] := ⟨World.ownsRow_nil _ _ _ _, Rows.nil w B, rfl⟩
theorem OutP.below (h : OutP w B Ao k co rs y) (hb : Below w.heap.size w w') : OutP w' B Ao k co rs y := ⟨ownsRow_below h.1 hb, h.2.1.below hb, h.2.2⟩
theorem OutP.qr (h : OutP w B Ao k co rs y) : QR w B Ao k co y := ⟨h.2.2, rs, h.1, h.2.1⟩
theorem OutP.setBelow (h : OutP w B Ao k co rs y) {p : Addr} (hp : p.block < B) (u : Value) : OutP (w.setCell p u) B Ao k co rs y :=
  ⟨ownsRow_setCell_below h.1 hp u, h.2.1.set_ p u fun i hi b hb e => by have := (h.2.1.lt hi hb).1; injection e with e; omega, h.2.2⟩
theorem OutP.push {A1 : Option Addr} {m c1 : Nat} {t : List Int} {o : Obj} {A' : Option Addr} {c' : Nat} (h : OutP w B Ao k co rs y) (h6 : OI w B A1 m c1 t) (h7 : Apart rs (blk A1))
    (hg : (w.alloc o).grownBy w' (Value.slice Ao k co).ownBlock) (ho : w'.ownsRow B 24 1 (.slice A' (k + 1) c') (k + 1) (List.zipWith rowV rs y ++ [.slice A1 m c1])) :
    OutP w' B A' (k + 1) c' (rs ++ [(A1, c1)]) (y ++ [t]) := by
  have ha := h.below ((Below.refl _ w).alloc (Nat.le_refl _) o)
  have h6' := h6.below ((Below.refl _ w).alloc (Nat.le_refl _) o)
  obtain ⟨h2, h3, h5⟩ := ha
  have hm : t.length = m := h6.ri.1
  subst hm
  rw [blk_own] at hg
  have hne : ∀ {A : Option Addr} {n c : Nat} {xs : List Int}, OI (w.alloc o) B A n c xs → (Value.slice A n c).ownBlock = none ∨ (Value.slice A n c).ownBlock ≠ blk Ao := by
    intro A n c xs hA
    rw [blk_own]
    cases hq : blk A with
    | none => exact .inl rfl
    | some b => exact .inr fun e => own_ne hA h2 ne_types2 hq e.symm
  have k6 : OI w' B A1 t.length c1 t := World.ownsRow.kept h6' hg (hne h6')
  have k3 : Rows w' B rs y := h3.grown hg fun i hi b hb e => own_ne (h3.2.1 i (by rw [← h3.1]; exact hi)) h2 ne_types2 hb e
  refine ⟨?_, k3.snoc k6 h7, by simp [h5]⟩
  rw [List.zipWith_append h3.1]
  exact ho
/-- A row that is newer than all rows laid. -/
theorem OutP.fresh {A1 : Option Addr} {m c1 : Nat} {t : List Int} (h : OutP w B Ao k co rs y) (ho : OI w1 w.heap.size A1 m c1 t) : Apart rs (blk A1) := fun i hi b hb e => by
  have h1 := (h.2.1.lt hi hb).2
  have h2 := (ho.lt_ e).1
  omega
theorem OutP.cell (h : OutP w B Ao k co rs y) {j : Nat} (hj : j < k) :
    ∃ g A' c', Ao = some ⟨g, 0, none⟩ ∧ w.cell? ⟨g, j, none⟩ = some (.slice A' (y.getD j []).length c') ∧ OI w B A' (y.getD j []).length c' (y.getD j []) ∧ B ≤ g := by
  obtain ⟨h2, hr, hn⟩ := h
  rcases h2.2 with ⟨_, h0⟩ | ⟨g, cap, cur, hv, hB, _⟩
  · omega
  · simp only [Value.slice.injEq] at hv
    obtain ⟨rfl, _, rfl⟩ := hv
    have hl := hr.1
    have hc := h2.cellAt j (by omega)
    refine ⟨g, _, _, rfl, ?_, hr.2.1 j (by omega), hB⟩
    rw [hc, List.getElem?_zipWith]
    rw [List.getElem?_eq_getElem (show j < rs.length by omega), List.getElem?_eq_getElem (show j < y.length by omega)]
    simp [rowV, List.getD_eq_getElem?_getD, show j < rs.length by omega, show j < y.length by omega]
theorem OutP.cap (h : OutP w B Ao k co rs y) : k ≤ co := by
  obtain ⟨A, c, hv, h1, _⟩ := own_form h.1
  simp only [Value.slice.injEq] at hv
  obtain ⟨_, _, rfl⟩ := hv
  exact h1
theorem OutP.cut (h : OutP w B Ao (k + 1) co rs y) : OutP w B Ao k co (rs.take k) (y.take k) := by
  obtain ⟨h2, hr, hn⟩ := h
  have hl := hr.1
  refine ⟨⟨by simp [hl, hn], ?_⟩, ⟨by simp [hl], fun j hj => ?_, fun i j hij hj b hb => ?_⟩, by rw [List.length_take]; omega⟩
  · rcases h2.2 with ⟨_, h0⟩ | ⟨g, cap, cur, hv, hB, hg, hc1, hc2, hc3, ht⟩
    · omega
    · simp only [Value.slice.injEq] at hv
      obtain ⟨rfl, _, rfl⟩ := hv
      refine .inr ⟨g, _, cur, rfl, hB, hg, by omega, hc2, hc3, ?_⟩
      rw [← List.take_zipWith, ← ht, List.take_take, Nat.mul_one, Nat.mul_one, Nat.min_eq_left (by omega)]
  · rw [List.length_take] at hj
    have := hr.2.1 j (by omega)
    simp only [List.getD_eq_getElem?_getD] at this ⊢
    rw [List.getElem?_take_of_lt (by omega), List.getElem?_take_of_lt (by omega)]
    exact this
  · rw [List.length_take] at hj
    have := hr.2.2 i j hij (by omega) b
    simp only [List.getD_eq_getElem?_getD] at this hb ⊢
    rw [List.getElem?_take_of_lt (by omega)] at hb ⊢
    exact this hb
end
/-- The boxes of a call that makes a substitution: its argument, its result, the one that it makes. -/
structure Env (w : World) (A : Option Addr) (n c : Nat) (Ao : Option Addr) (ko co : Nat) (wr : World) : Prop where
  k0 : Blk wr w.heap.size 39 #[.slice A n c]
  k1 : Blk wr (w.heap.size + 1) 39 #[.slice none 0 0]
  k2 : Blk wr (w.heap.size + 1 + 1) 39 #[.slice Ao ko co]
  bel : Below w.heap.size w wr
section
variable {w wr w1 : World} {A : Option Addr} {n c : Nat} {Ao : Option Addr} {ko co : Nat}
theorem Env.size (h : Env w A n c Ao ko co wr) : w.heap.size + 1 + 1 + 1 ≤ wr.heap.size := h.k2.lt
theorem Env.c0 (h : Env w A n c Ao ko co wr) : wr.cell? ⟨w.heap.size, 0, none⟩ = some (.slice A n c) := by simpa using h.k0.cell 0
theorem Env.c1 (h : Env w A n c Ao ko co wr) : wr.cell? ⟨w.heap.size + 1, 0, none⟩ = some (.slice none 0 0) := by simpa using h.k1.cell 0
theorem Env.c2 (h : Env w A n c Ao ko co wr) : wr.cell? ⟨w.heap.size + 1 + 1, 0, none⟩ = some (.slice Ao ko co) := by simpa using h.k2.cell 0
theorem Env.f1 (h : Env w A n c Ao ko co wr) : wr.frozen? ⟨w.heap.size + 1, 0, none⟩ = false := h.k1.frozen 0
theorem Env.f2 (h : Env w A n c Ao ko co wr) : wr.frozen? ⟨w.heap.size + 1 + 1, 0, none⟩ = false := h.k2.frozen 0
theorem Blk.old {g : Nat} {t : TypeId} {cs : Array Value} {B : Nat} (h : Blk wr g t cs) (hb : Below B wr w1) (hg : g < B) : Blk w1 g t cs := (hb.block g hg).trans h
theorem Env.grow (h : Env w A n c Ao ko co wr) (hb : Below (w.heap.size + 1 + 1 + 1) wr w1) : Env w A n c Ao ko co w1 :=
  ⟨h.k0.old hb (by omega), h.k1.old hb (by omega), h.k2.old hb (by omega), h.bel.trans (hb.mono (by omega))⟩
theorem Env.below (h : Env w A n c Ao ko co wr) (hb : Below wr.heap.size wr w1) : Env w A n c Ao ko co w1 := h.grow (hb.mono h.size)
theorem Env.set_ (h : Env w A n c Ao ko co wr) (Ao' : Option Addr) (ko' co' : Nat) : Env w A n c Ao' ko' co' (wr.setCell ⟨w.heap.size + 1 + 1, 0, none⟩ (.slice Ao' ko' co')) :=
  ⟨h.k0.far (by dsimp only; omega) _, h.k1.far (by dsimp only; omega) _, by simpa using h.k2.set_ 0 (.slice Ao' ko' co'), h.bel.setCell (by dsimp only; omega) _⟩
theorem Env.start (w : World) (A : Option Addr) (n c : Nat) : Env w A n c none 0 0 (((w.alloc (.cells #[.slice A n c] 39)).alloc (.cells #[.slice none 0 0] 39)).alloc (.cells #[.slice none 0 0] 39)) := by
  refine ⟨((Blk.new w _ _).alloc _).alloc _, ?_, ?_, (((Below.refl _ _).alloc (Nat.le_refl _) _).alloc (by simp) _).alloc (by simp <;> omega) _⟩
  · have := (Blk.new (w.alloc (.cells #[.slice A n c] 39)) 39 #[.slice none 0 0]).alloc (.cells #[.slice none 0 0] 39)
    simpa only [World.size_alloc] using this
  · have := Blk.new ((w.alloc (.cells #[.slice A n c] 39)).alloc (.cells #[.slice none 0 0] 39)) 39 #[.slice none 0 0]
    simpa only [World.size_alloc] using this
theorem Env.fin {j : Nat} {co : Nat} {rs : List (Option Addr × Nat)} {y : List (List Int)} (he : Env w A n c Ao j co wr) (ho : OutP wr (w.heap.size + 1 + 1 + 1) Ao j co rs y) :
    (∀ i, (wr.setCell ⟨w.heap.size + 1, 0, none⟩ (.slice Ao j co)).cell? ⟨w.heap.size + 1, i, none⟩ = #[.slice Ao j co][i]?) ∧ QR (wr.setCell ⟨w.heap.size + 1, 0, none⟩ (.slice Ao j co)) w.heap.size Ao j co y ∧ Below w.heap.size w (wr.setCell ⟨w.heap.size + 1, 0, none⟩ (.slice Ao j co)) := by
  have k1 := he.k1.set_ 0 (.slice Ao j co)
  simp only [List.setIfInBounds_toArray, List.set_cons_zero] at k1
  exact ⟨fun i => k1.cell i, (ho.setBelow (p := ⟨w.heap.size + 1, 0, none⟩) (by dsimp only; omega) _).qr.base (by omega), he.bel.setCell (by dsimp only; omega) _⟩
end
/-- How long the list in a cell is. -/
def lenC (w : World) (b : Nat) : Nat := match w.cell? ⟨b, 0, none⟩ with | some (.slice _ m _) => m | _ => 0
theorem lenC_of {w : World} {b : Nat} {A : Option Addr} {m c : Nat} (h : w.cell? ⟨b, 0, none⟩ = some (.slice A m c)) : lenC w b = m := by unfold lenC; rw [h]
theorem infoSliceP : (Tryz.prog.info? 24).map (fun i => (i.zero, i.size, i.bytes)) = some (some (.slice none 0 0), 1, 24) := by kernel_rfl
set_option maxHeartbeats 2000000 in
set_option maxRecDepth 20000 in
theorem l2Plain_any (A : Option Addr) (n c : Nat) (x : List (List Int)) (w : World) (h : RR w A n x) (hw : wtR x ≤ 1048576) (hn : n ≤ 24) :
    Calls Tryz.prog 41 #[.agg #[.slice A n c]] w fun e w' => ∃ A' c', e = .returned (.agg #[.slice A' (plainU x).length c']) ∧ QR w' w.heap.size A' (plainU x).length c' (plainU x) ∧ Below w.heap.size w w' := by
  obtain ⟨i1, hj, hy0, hy1, hy2⟩ := info_parts infoSliceP
  have hl := h.1
  have HE0 := Lib.hid (Env.start w A n c)
  go_enter Tryz.func41, Tryz.ntmps41
  go_wp2_with fail
  generalize ((w.alloc (.cells #[.slice A n c] 39)).alloc (.cells #[.slice none 0 0] 39)).alloc (.cells #[.slice none 0 0] 39) = W0 at *
  have HO0 := Lib.hid (OutP.start W0 (w.heap.size + 1 + 1 + 1))
  go_loopw [4] (fun i wr => ∃ (k : Nat) (Ao : Option Addr) (co : Nat) (rs : List (Option Addr × Nat)), k ≤ n ∧ i = .int .i64 k ∧ Hid (Env w A n c Ao k co wr) ∧ Hid (OutP wr (w.heap.size + 1 + 1 + 1) Ao k co rs (clR x k))) (fun i _ => n - (intOf i).toNat)
  case atStart => exact ⟨0, none, 0, [], Nat.zero_le _, rfl, HE0, HO0⟩
  case round =>
    obtain ⟨k, Ao, co, rs, hk, rfl, he, ho⟩ := hrel
    have C0 := he.out.c0
    have C2 := he.out.c2
    have F2 := he.out.f2
    have hsz := he.out.size
    have hcap := ho.out.cap
    by_cases hlt : k < n
    · have hlt2 : (k : Int) < n := by omega
      obtain ⟨G, hG⟩ : ∃ G, gives x k = G := ⟨_, rfl⟩
      have HCL := Lib.hid (cl1_gives x k)
      rw [hG] at HCL
      have HST := Lib.hid (clR_step x k)
      have hwrap : IntKind.i64.wrap (-1 - (k : Int)) = -1 - (k : Int) := by rw [IntKind.wrap_i64]; omega
      go_wp2_with fail
      refine (l2Gives_at A n c x k (k : Int) G rfl hG wr (h.below he.out.bel) hw (by omega)).mono ?_
      rintro e w1 ⟨A1, c1, rfl, o1, hb1⟩
      have he1 := Lib.hid (he.out.below hb1)
      have ho1 := Lib.hid (ho.out.below hb1)
      have hap := Lib.hid (ho.out.fresh o1)
      have O1 := Lib.hid (o1.base (B' := w.heap.size + 1 + 1 + 1) hsz)
      clear C0 C2 F2 hb1 hsz he ho
      have C2 := he1.out.c2
      have F2 := he1.out.f2
      have hsz := he1.out.size
      by_cases hself : G = [-1 - (k : Int)]
      · subst hself
        have HX : Hid (clR x (k + 1) = clR x k ++ [[]]) := Lib.hid (by rw [HST.out, ← HCL.out, cl1_self])
        obtain ⟨g, off, v, rfl, hc, hv⟩ := o1.ri.at_ (k := 0) (by simp)
        have hv2 : v = -1 - (k : Int) := hv.out
        subst hv2
        clear hv o1 hG O1 HCL hap
        simp only [Nat.add_zero] at hc
        have heE := Lib.hid (he1.out.below ((Below.refl _ _).alloc (Nat.le_refl _) (.cells #[] 2)))
        have hoE := Lib.hid (ho1.out.below ((Below.refl _ _).alloc (Nat.le_refl _) (.cells #[] 2)))
        have O2 := Lib.hid (OI.empty w1 (Nat.le_refl _))
        have hap := Lib.hid (ho1.out.fresh O2.out)
        replace O2 := Lib.hid (O2.out.base (B' := w.heap.size + 1 + 1 + 1) hsz)
        have HSRC : Hid (Src ((w1.alloc (.cells #[] 2)).alloc (.cells #[.slice (some ⟨w1.heap.size, 0, none⟩) 0 0] 24)) (some ⟨w1.heap.size + 1, 0, none⟩) 1 1 [.slice (some ⟨w1.heap.size, 0, none⟩) 0 0]) := Lib.hid (by
          have := Src.new (w1.alloc (.cells #[] 2)) [.slice (some ⟨w1.heap.size, 0, none⟩) 0 0] 24 1 1 rfl (by simp [Value.oneCell'])
          simpa only [World.size_alloc] using this)
        clear he1 ho1 C2 F2
        have hszE := heE.out.size
        have C2E := heE.out.c2
        have F2E := heE.out.f2
        have howa := Lib.hid (ownsRow_below hoE.out.1 ((Below.refl _ _).alloc (Nat.le_refl _) (.cells #[.slice (some ⟨w1.heap.size, 0, none⟩) 0 0] 24)))
        go_wp2_with (at_builtin; refine wpList_append_any rfl _ _ 37 rfl (w.heap.size + 1 + 1 + 1) 24 i1 (.slice none 0 0) 1 24 Tryz.underlying37 hj hy0 hy1 hy2 rfl (by omega) Ao k co (List.zipWith rowV rs (clR x k)) rfl howa.out _ 1 _ [.slice (some ⟨w1.heap.size, 0, none⟩) 0 0] rfl (HSRC.out) (by unfold maxLen; omega) (by omega) (by first | omega | (simp; omega) | (simp at hszE ⊢; omega)) ?_; intro A3 c3 w3 hoN hg hnil; have hgb := app_below hg howa.out hszE; have hO3 := Lib.hid (hoE.out.push O2.out hap.out hg hoN); have hE3 := Lib.hid (heE.out.grow hgb); have C3 := hE3.out.c2; have F3 := hE3.out.f2; clear hgb hg hoN howa C2E F2E)
        have hO4 := Lib.hid (hO3.out.setBelow (p := ⟨w.heap.size + 1 + 1, 0, none⟩) (by dsimp only; omega) (.slice A3 (k + 1) c3))
        have hE4 := Lib.hid (hE3.out.set_ A3 (k + 1) c3)
        clear hO3 hE3 C3 F3
        rw [← HX.out] at hO4
        go_roundw
        case rel => exact ⟨k + 1, A3, c3, _, by omega, by go_num, hE4, hO4⟩
        case measure => simp [intOf]; omega
      · have HX : Hid (clR x (k + 1) = clR x k ++ [G]) := Lib.hid (by rw [HST.out, ← HCL.out, cl1_other hself])
        by_cases hlen : G.length = 1
        · obtain ⟨v0, hGv⟩ : ∃ v0, G = [v0] := by
            match G, hlen with
            | [v0], _ => exact ⟨v0, rfl⟩
          subst hGv
          have hne : v0 ≠ -1 - (k : Int) := fun e => hself (by rw [e])
          obtain ⟨g, off, v, rfl, hc, hv⟩ := o1.ri.at_ (k := 0) (by simp)
          have hv2 : v = v0 := hv.out
          subst hv2
          clear hv o1 hG HCL hself
          simp only [Nat.add_zero] at hc
          have hne1 : (v == -1 - (k : Int)) = false := by simpa using hne
          have hszE := he1.out.size
          have C2E := he1.out.c2
          have F2E := he1.out.f2
          have howa := Lib.hid (ownsRow_below ho1.out.1 ((Below.refl _ _).alloc (Nat.le_refl _) (.cells #[.slice (some ⟨g, off, none⟩) 1 c1] 24)))
          go_wp2_with (at_builtin; refine wpList_append_any rfl _ _ 37 rfl (w.heap.size + 1 + 1 + 1) 24 i1 (.slice none 0 0) 1 24 Tryz.underlying37 hj hy0 hy1 hy2 rfl (by omega) Ao k co (List.zipWith rowV rs (clR x k)) rfl howa.out _ 1 _ [.slice (some ⟨g, off, none⟩) 1 c1] rfl (Src.new _ [.slice (some ⟨g, off, none⟩) 1 c1] _ 1 1 rfl (by simp [Value.oneCell'])) (by unfold maxLen; omega) (by omega) (by first | omega | (simp; omega) | (simp at hszE ⊢; omega)) ?_; intro A3 c3 w3 hoN hg hnil; have hgb := app_below hg howa.out hszE; have hO3 := Lib.hid (ho1.out.push O1.out hap.out hg hoN); have hE3 := Lib.hid (he1.out.grow hgb); have C3 := hE3.out.c2; have F3 := hE3.out.f2; clear hgb hg hoN howa C2E F2E)
          have hO4 := Lib.hid (hO3.out.setBelow (p := ⟨w.heap.size + 1 + 1, 0, none⟩) (by dsimp only; omega) (.slice A3 (k + 1) c3))
          have hE4 := Lib.hid (hE3.out.set_ A3 (k + 1) c3)
          clear hO3 hE3 C3 F3
          rw [← HX.out] at hO4
          go_roundw
          case rel => exact ⟨k + 1, A3, c3, _, by omega, by go_num, hE4, hO4⟩
          case measure => simp [intOf]; omega
        · have e1 : ¬ (G.length : Int) = 1 := by omega
          have e2 : ((G.length : Int) == 1) = false := by simp; omega
          clear o1 hG HCL hself
          have hszE := he1.out.size
          have C2E := he1.out.c2
          have F2E := he1.out.f2
          have howa := Lib.hid (ownsRow_below ho1.out.1 ((Below.refl _ _).alloc (Nat.le_refl _) (.cells #[.slice A1 G.length c1] 24)))
          go_wp2_with (at_builtin; refine wpList_append_any rfl _ _ 37 rfl (w.heap.size + 1 + 1 + 1) 24 i1 (.slice none 0 0) 1 24 Tryz.underlying37 hj hy0 hy1 hy2 rfl (by omega) Ao k co (List.zipWith rowV rs (clR x k)) rfl howa.out _ 1 _ [.slice A1 G.length c1] rfl (Src.new _ [.slice A1 G.length c1] _ 1 1 rfl (by simp [Value.oneCell'])) (by unfold maxLen; omega) (by omega) (by first | omega | (simp; omega) | (simp at hszE ⊢; omega)) ?_; intro A3 c3 w3 hoN hg hnil; have hgb := app_below hg howa.out hszE; have hO3 := Lib.hid (ho1.out.push O1.out hap.out hg hoN); have hE3 := Lib.hid (he1.out.grow hgb); have C3 := hE3.out.c2; have F3 := hE3.out.f2; clear hgb hg hoN howa C2E F2E)
          have hO4 := Lib.hid (hO3.out.setBelow (p := ⟨w.heap.size + 1 + 1, 0, none⟩) (by dsimp only; omega) (.slice A3 (k + 1) c3))
          have hE4 := Lib.hid (hE3.out.set_ A3 (k + 1) c3)
          clear hO3 hE3 C3 F3
          rw [← HX.out] at hO4
          go_roundw
          case rel => exact ⟨k + 1, A3, c3, _, by omega, by go_num, hE4, hO4⟩
          case measure => simp [intOf]; omega
    · have hkn : k = n := by omega
      subst hkn
      have HP : Hid (trimR (clR x k) = plainU x) := Lib.hid (by unfold plainU; rw [hl])
      have HLEN := Lib.hid (clR_len x k)
      rename World => W1
      go_wp2_with fail
      go_loopw [] (fun wv => ∃ (j : Nat) (Ao : Option Addr) (co : Nat) (rs : List (Option Addr × Nat)), j ≤ k ∧ Hid (Env w A k c Ao j co wv) ∧ Hid (OutP wv (w.heap.size + 1 + 1 + 1) Ao j co rs ((clR x k).take j)) ∧ Hid (trimR ((clR x k).take j) = plainU x)) (fun wv => lenC wv (w.heap.size + 1 + 1))
      case atStart => exact ⟨k, Ao, co, rs, Nat.le_refl _, he, Lib.hid (by rw [List.take_of_length_le (by rw [clR_len]; omega)]; exact ho.out), Lib.hid (by rw [List.take_of_length_le (by rw [clR_len]; omega)]; exact HP.out)⟩
      case round =>
        clear Ao co rs C0 C2 F2 hsz hcap he ho
        obtain ⟨j, Ao, co, rs, hj, he, ho, ht⟩ := hrel
        have hcap := ho.out.cap
        have HC2 := he.out.c2
        cases j with
        | zero =>
          have HY : Hid ((clR x k).take 0 = plainU x) := Lib.hid (by rw [← ht.out]; simp [trimR_nil])
          have HJ : Hid ((plainU x).length = 0) := Lib.hid (by rw [← HY.out]; simp)
          have HF := he.out.fin ho.out
          obtain ⟨HK, HQ, HB⟩ := HF
          replace HK := Lib.hid HK
          replace HQ := Lib.hid HQ
          replace HB := Lib.hid HB
          have C1 := he.out.c1
          have F1 := he.out.f1
          have C2 := he.out.c2
          have F2 := he.out.f2
          have hszF := he.out.size
          clear he ho
          go_wp2_with fail
          exact bodyPost_ret (v := .agg #[.slice Ao (0) co]) (by simp [results, Tryz.results41, go_sem, HK.out]) rfl ⟨Ao, co, by rw [HJ.out], by rw [HJ.out, ← HY.out]; exact HQ.out, HB.out⟩
        | succ j =>
          obtain ⟨g, A', c', rfl, hcell, orow, hg⟩ := ho.out.cell (j := j) (by omega)
          have hgj : ((clR x k).take (j + 1)).getD j [] = (clR x k).getD j [] := by simp [List.getD_eq_getElem?_getD]
          rw [hgj] at hcell orow
          have hcl := clR_len x k
          obtain ⟨L, hL⟩ : ∃ L, ((clR x k).getD j []).length = L := ⟨_, rfl⟩
          rw [hL] at hcell orow
          have HC := Lib.hid hcl
          have hj0 : (0 : Int) < (j : Int) + 1 := by omega
          have C2 := he.out.c2
          have F2 := he.out.f2
          have hszj := he.out.size
          by_cases h0 : L = 0
          · subst h0
            have HT := Lib.hid (ht.out.symm.trans (trim_cut (by omega) hL))
            have hE4 := Lib.hid (he.out.set_ (some ⟨g, 0, none⟩) j co)
            have hO4 := ho.out.cut
            rw [List.take_take, Nat.min_eq_left (by omega)] at hO4
            replace hO4 := Lib.hid (hO4.setBelow (p := ⟨w.heap.size + 1 + 1, 0, none⟩) (by dsimp only; omega) (.slice (some ⟨g, 0, none⟩) j co))
            have HM : Hid (lenC wr (w.heap.size + 1 + 1) = j + 1) := Lib.hid (lenC_of C2)
            clear ho he hcl hgj hL orow ht
            go_wp2_with fail
            go_roundw
            case rel => exact ⟨j, _, co, _, by omega, hE4, hO4, Lib.hid HT.out.symm⟩
            case measure => rw [HM.out, lenC_of hE4.out.c2]; omega
          · have hY : (clR x k).take (j + 1) = plainU x := by rw [← ht.out, trim_stop (by omega) (by rw [hL]; exact h0)]
            have HY := Lib.hid hY
            have HJ : Hid ((plainU x).length = j + 1) := Lib.hid (by rw [← hY, List.length_take]; omega)
            have hL0 : ((L : Int) == 0) = false := by simp; omega
            clear hcl hgj hL orow ht hY
            have HF := he.out.fin ho.out
            obtain ⟨HK, HQ, HB⟩ := HF
            replace HK := Lib.hid HK
            replace HQ := Lib.hid HQ
            replace HB := Lib.hid HB
            have C1 := he.out.c1
            have F1 := he.out.f1
            have C2 := he.out.c2
            have F2 := he.out.f2
            have hszF := he.out.size
            clear he ho
            go_wp2_with fail
            exact bodyPost_ret (v := .agg #[.slice (some ⟨g, 0, none⟩) (j + 1) co]) (by simp [results, Tryz.results41, go_sem, HK.out]) rfl ⟨(some ⟨g, 0, none⟩), co, by rw [HJ.out], by rw [HJ.out, ← HY.out]; exact HQ.out, HB.out⟩
theorem variable_any (i : Nat) (w : World) (hi : i ≤ 1000) :
    Calls Tryz.prog 37 #[.int .i64 i] w fun e w' => e = .returned (.slice (some ⟨w.heap.size, 0, none⟩) 1 1) ∧ OI w' w.heap.size (some ⟨w.heap.size, 0, none⟩) 1 1 [-1 - (i : Int)] ∧ Below w.heap.size w w' := by
  have hnew : OI (w.alloc (.cells #[.int .i64 (-1 - (i : Int))] 2)) w.heap.size (some ⟨w.heap.size, 0, none⟩) 1 1 [-1 - (i : Int)] :=
    World.ownsRow_lit (e := 2) (size := 1) (base := w.heap.size) w #[.int .i64 (-1 - (i : Int))] 1 (Nat.le_refl _) (by simp [maxLen]) rfl
  have HN := Lib.hid hnew
  clear hnew
  go_enter Tryz.func37, Tryz.ntmps37
  go_wp2_with fail
  go_ret
  exact ⟨rfl, HN.out, (Below.refl _ _).alloc (Nat.le_refl _) _⟩
end Go.Proofs.YtlcchafcgidpeaaGreatDoor
