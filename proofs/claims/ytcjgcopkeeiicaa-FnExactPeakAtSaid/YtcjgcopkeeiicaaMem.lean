/- Words for memory: slices that read as lists of numbers. -/
import Derived.WalkKit
import Derived.Lib.Hide
import Derived.WalkLawsBesides
import Derived.WalkSpells
import Derived.Deep.QuietTactic
import Derived.BigQuiet
namespace Go.Proofs.Ytcjgcopkeeiicaa
open Go.RowKit

/-- A slice of int64 that reads as the list xs. -/
def RI (w : World) (A : Option Addr) (n : Nat) (xs : List Int) : Prop :=
  xs.length = n ∧ (0 < n → ∃ g off, A = some ⟨g, off, none⟩ ∧ ∀ k, k < n → w.cell? ⟨g, off + k, none⟩ = some (.int .i64 (xs.getD k 0)))

theorem RI.below {w w' : World} {A : Option Addr} {n : Nat} {xs : List Int} (h : RI w A n xs) (hb : Below w.heap.size w w') : RI w' A n xs := by
  refine ⟨h.1, fun hn => ?_⟩
  obtain ⟨g, off, hA, hc⟩ := h.2 hn
  exact ⟨g, off, hA, fun k hk => (hb.cell (World.block_lt_of_cell? w _ (hc k hk))).trans (hc k hk)⟩

theorem RI.at_ {w : World} {A : Option Addr} {n : Nat} {xs : List Int} (h : RI w A n xs) {k : Nat} (hk : k < n) :
    ∃ g off x, A = some ⟨g, off, none⟩ ∧ w.cell? ⟨g, off + k, none⟩ = some (.int .i64 x) ∧ Hid (x = xs.getD k 0) := by
  obtain ⟨g, off, hA, hc⟩ := h.2 (by omega)
  exact ⟨g, off, _, hA, hc k hk, rfl⟩

theorem below_drewN {B : Nat} {a w : World} (h : Below B a w) (n : Nat) : Below B a (w.drewN n) := ⟨h.os, h.tape, h.output, h.size, h.block⟩

theorem RI.of_own {w : World} {B e : Nat} {A : Option Addr} {n m c : Nat} {xs : List Int} (h : w.ownsRow B e 1 (.slice A n c) m (xs.map (Value.int .i64))) (hm : m = n) : RI w A n xs := by
  subst hm
  obtain ⟨h1, h2⟩ := h
  refine ⟨by simpa using h1, fun hn => ?_⟩
  rcases h2 with ⟨_, h2⟩ | ⟨g, cap, cur, hv, hg, hh, hnc, hcm, hcs, htake⟩
  · omega
  · injection hv with hA
    refine ⟨g, 0, hA, fun k hk => ?_⟩
    rw [Nat.zero_add, cell_of_row w g k cur e (0, 0) hh]
    have : (xs.map (Value.int .i64))[k]? = cur[k]? := by
      rw [← htake, List.getElem?_take, if_pos (by omega)]; simp
    rw [← this]
    have hk' : k < xs.length := by simp at h1; omega
    simp [hk']

theorem own_some {w : World} {B e g n c : Nat} {xs : List Value} (h : w.ownsRow B e 1 (.slice (some ⟨g, 0, none⟩) n c) n xs) {k : Nat} (hk : k < n) : ∃ v, w.cell? ⟨g, k, none⟩ = some v := by
  have h1 := h.cellAt k (by omega)
  have : k < xs.length := by have := h.1; omega
  exact ⟨xs[k], by rw [h1, List.getElem?_eq_getElem this]⟩

theorem upd_step (xs : List Int) (n k : Nat) (hx : xs.length = n) (hk : k < n) :
    ((xs.take k ++ List.replicate (n - k) 0).map (Value.int .i64)).set k (.int .i64 (xs.getD k 0)) = (xs.take (k + 1) ++ List.replicate (n - (k + 1)) 0).map (Value.int .i64) := by
  apply List.ext_getElem?
  intro j
  subst hx
  have m1 : min k xs.length = k := by omega
  have m2 : min (k + 1) xs.length = k + 1 := by omega
  rw [List.getElem?_set]
  simp only [List.map_append, List.map_take, List.map_replicate, List.length_append, List.length_take, List.length_map, List.length_replicate, List.getElem?_append, List.getElem?_take, List.getElem?_replicate, m1, m2]
  by_cases hj : k = j
  · subst hj
    rw [if_pos rfl, if_pos (by omega), if_pos (by omega), if_pos (by omega)]
    simp [hk]
  · rw [if_neg hj]
    by_cases h1 : j < k
    · rw [if_pos h1, if_pos h1, if_pos (by omega), if_pos (by omega)]
    · rw [if_neg h1, if_neg (show ¬ j < k + 1 by omega)]
      by_cases h3 : j < xs.length
      · rw [if_pos (by omega), if_pos (by omega)]
      · rw [if_neg (by omega), if_neg (by omega)]

theorem upd_step' (xs : List Int) (n k : Nat) (x : Int) (hx : xs.length = n) (hk : k < n) (e : x = xs.getD k 0) :
    ((xs.take k ++ List.replicate (n - k) 0).map (Value.int .i64)).set k (.int .i64 x) = (xs.take (k + 1) ++ List.replicate (n - (k + 1)) 0).map (Value.int .i64) := by
  rw [e]; exact upd_step xs n k hx hk

/-- A part of a slice reads as a part of the list. -/
theorem ri_part {w : World} {g off m : Nat} {t : List Int} (h : RI w (some ⟨g, off, none⟩) m t) (p F : Nat) (hp : p ≤ F) (hF : F ≤ m) : RI w (some ⟨g, off + p, none⟩) (F - p) ((t.drop p).take (F - p)) := by
  refine ⟨by rw [List.length_take, List.length_drop, h.1]; omega, fun h0 => ⟨g, off + p, rfl, fun k hk => ?_⟩⟩
  obtain ⟨g', off', he, hc⟩ := h.2 (by omega)
  simp only [Option.some.injEq, Addr.mk.injEq, and_true] at he
  obtain ⟨rfl, rfl⟩ := he
  rw [Nat.add_assoc, hc (p + k) (by omega)]
  simp [List.getD_eq_getElem?_getD, hk]

/-- A slice of int64 that the call itself made, in a block from B on: it reads as xs. -/
def OI (w : World) (B : Nat) (A : Option Addr) (n c : Nat) (xs : List Int) : Prop := w.ownsRow B 2 1 (.slice A n c) n (xs.map (Value.int .i64))

theorem OI.ri {w : World} {B : Nat} {A : Option Addr} {n c : Nat} {xs : List Int} (h : OI w B A n c xs) : RI w A n xs := RI.of_own h rfl

theorem ownsRow_below {w w' : World} {B e size : Nat} {v : Value} {n : Nat} {xs : List Value} (h : w.ownsRow B e size v n xs) (hb : Below w.heap.size w w') : w'.ownsRow B e size v n xs := by
  refine ⟨h.1, ?_⟩
  rcases h.2 with hn | ⟨g, cap, cur, rfl, hB, hg, rest⟩
  · exact .inl hn
  · exact .inr ⟨g, cap, cur, rfl, hB, (hb.block g (Array.getElem?_eq_some_iff.1 hg).1).trans hg, rest⟩

theorem ownsRow_base {w : World} {B B' e size : Nat} {v : Value} {n : Nat} {xs : List Value} (h : w.ownsRow B e size v n xs) (hB : B' ≤ B) : w.ownsRow B' e size v n xs := by
  refine ⟨h.1, ?_⟩
  rcases h.2 with hn | ⟨g, cap, cur, rfl, hg, rest⟩
  · exact .inl hn
  · exact .inr ⟨g, cap, cur, rfl, Nat.le_trans hB hg, rest⟩

theorem OI.below {w w' : World} {B : Nat} {A : Option Addr} {n c : Nat} {xs : List Int} (h : OI w B A n c xs) (hb : Below w.heap.size w w') : OI w' B A n c xs := ownsRow_below h hb
theorem OI.base {w : World} {B B' : Nat} {A : Option Addr} {n c : Nat} {xs : List Int} (h : OI w B A n c xs) (hB : B' ≤ B) : OI w B' A n c xs := ownsRow_base h hB

theorem OI.setBelow {w : World} {B : Nat} {A : Option Addr} {n c : Nat} {xs : List Int} (h : OI w B A n c xs) {p : Addr} (hp : p.block < B) (u : Value) : OI (w.setCell p u) B A n c xs := ownsRow_setCell_below h hp u
theorem RI.alloc {w : World} {A : Option Addr} {n : Nat} {xs : List Int} (h : RI w A n xs) (o : Obj) : RI (w.alloc o) A n xs := h.below ((Below.refl _ _).alloc (Nat.le_refl _) o)
theorem RI.drew {w : World} {A : Option Addr} {n : Nat} {xs : List Int} (h : RI w A n xs) : RI w.drew A n xs := h
theorem RI.drewN {w : World} {A : Option Addr} {n : Nat} {xs : List Int} (h : RI w A n xs) (k : Nat) : RI (w.drewN k) A n xs := h
theorem RI.len {w : World} {A : Option Addr} {n : Nat} {xs : List Int} (h : RI w A n xs) : xs.length = n := h.1

theorem OI.rd {w : World} {B : Nat} {A : Option Addr} {n c : Nat} {xs : List Int} (h : OI w B A n c xs) : RI w A n xs := h.ri

theorem OI.empty (w : World) {B : Nat} (hB : B ≤ w.heap.size) : OI (w.alloc (.cells #[] 2)) B (some ⟨w.heap.size, 0, none⟩) 0 0 [] :=
  World.ownsRow_lit (e := 2) (size := 1) w #[] 0 hB (by simp [maxLen]) rfl

/-- The world is as it was but for what lies from block lo on and before block hi, and for what is new. -/
structure Only (lo hi : Nat) (w w' : World) : Prop where
  os : w'.os = w.os
  tape : w'.tape = w.tape
  output : w'.output = w.output
  size : w.heap.size ≤ w'.heap.size
  block : ∀ k, k < w.heap.size → k < lo ∨ hi ≤ k → w'.heap[k]? = w.heap[k]?

theorem Only.of {lo hi : Nat} {w w' : World} (h : Below w.heap.size w w') : Only lo hi w w' := ⟨h.os, h.tape, h.output, h.size, fun k hk _ => h.block k hk⟩
theorem Only.refl (lo hi : Nat) (w : World) : Only lo hi w w := Only.of (Below.refl _ _)
theorem Only.trans {lo hi : Nat} {a b c : World} (h : Only lo hi a b) (k : Only lo hi b c) : Only lo hi a c :=
  ⟨k.os.trans h.os, k.tape.trans h.tape, k.output.trans h.output, Nat.le_trans h.size k.size, fun i hi hk => (k.block i (Nat.lt_of_lt_of_le hi h.size) hk).trans (h.block i hi hk)⟩
theorem Only.setCell {lo hi : Nat} {a w : World} (h : Only lo hi a w) {p : Addr} (hp : lo ≤ p.block ∧ p.block < hi) (u : Value) : Only lo hi a (w.setCell p u) :=
  h.trans ⟨rfl, rfl, rfl, by simp [World.setCell], fun k _ hk => Below.heap_setCell _ _ _ _ (by omega)⟩
theorem Only.below {lo hi B : Nat} {w w' : World} (h : Only lo hi w w') (hB : B ≤ lo) (hs : B ≤ w.heap.size) : Below B w w' :=
  ⟨h.os, h.tape, h.output, h.size, fun k hk => h.block k (by omega) (Or.inl (by omega))⟩
theorem Only.wide {lo hi lo' hi' : Nat} {w w' : World} (h : Only lo hi w w') (h1 : lo' ≤ lo) (h2 : hi ≤ hi') : Only lo' hi' w w' :=
  ⟨h.os, h.tape, h.output, h.size, fun k hk hh => h.block k hk (by omega)⟩
theorem keepO {lo hi : Nat} {w w' : World} (h : Only lo hi w w') {p : Addr} (hp : p.block < lo ∨ hi ≤ p.block) {v : Value} (hc : w.cell? p = some v) : w'.cell? p = some v :=
  (World.cell?_of_block (h.block p.block (World.block_lt_of_cell? w p hc) hp)).trans hc

/-- A slice that the call itself made, whose block lies from lo on and before hi. -/
def OX (w : World) (lo hi : Nat) (A : Option Addr) (n c : Nat) (xs : List Int) : Prop := OI w lo A n c xs ∧ ∀ a, A = some a → a.block < hi
theorem OI.hi_ {w : World} {B lo : Nat} {A : Option Addr} {n c : Nat} {xs : List Int} (h : OI w B A n c xs) (hB : lo ≤ B) : OX w lo w.heap.size A n c xs := by
  refine ⟨h.base hB, fun a ha => ?_⟩
  subst ha
  exact (h.lt a.block rfl).2
theorem OX.rd {w : World} {lo hi : Nat} {A : Option Addr} {n c : Nat} {xs : List Int} (h : OX w lo hi A n c xs) : RI w A n xs := h.1.ri
theorem OX.below {w w' : World} {lo hi : Nat} {A : Option Addr} {n c : Nat} {xs : List Int} (h : OX w lo hi A n c xs) (hb : Below w.heap.size w w') : OX w' lo hi A n c xs := ⟨h.1.below hb, h.2⟩
theorem OX.only {w w' : World} {lo hi lo' hi' : Nat} {A : Option Addr} {n c : Nat} {xs : List Int} (h : OX w lo hi A n c xs) (ho : Only lo' hi' w w') (hd : hi ≤ lo' ∨ hi' ≤ lo) : OX w' lo hi A n c xs := by
  refine ⟨⟨h.1.1, ?_⟩, h.2⟩
  rcases h.1.2 with hn | ⟨g, cap, cur, hv, hB, hg, rest⟩
  · exact .inl hn
  · have hA : A = some ⟨g, 0, none⟩ := by injection hv
    have hlt := h.2 _ hA
    exact .inr ⟨g, cap, cur, hv, hB, (ho.block g (Array.getElem?_eq_some_iff.1 hg).1 (by simp at hlt; omega)).trans hg, rest⟩

/-- What a call has left of the world that the caller began with. -/
theorem below_then {B : Nat} {w w1 w2 : World} (h : Below B w w1) (hb : Below w1.heap.size w1 w2) (hB : B ≤ w1.heap.size) : Below B w w2 := h.trans (hb.mono hB)

theorem take_step {xs ys : List Int} {k : Nat} (h : xs.take k = ys.take k) (hx : k < xs.length) (hy : k < ys.length) (he : xs.getD k 0 = ys.getD k 0) : xs.take (k + 1) = ys.take (k + 1) := by
  rw [List.take_succ_eq_append_getElem hx, List.take_succ_eq_append_getElem hy, h]
  simp [List.getD_eq_getElem?_getD, List.getElem?_eq_getElem hx, List.getElem?_eq_getElem hy] at he
  rw [he]

/-- A block that is known whole. -/
def Blk (w : World) (g : Nat) (t : TypeId) (cs : Array Value) : Prop := w.heap[g]? = some (.cells cs t (0, 0))
section
variable {w w' : World} {g : Nat} {t : TypeId} {cs : Array Value}
theorem Blk.lt (h : Blk w g t cs) : g < w.heap.size := by
  rcases Nat.lt_or_ge g w.heap.size with hlt | hge
  · exact hlt
  · unfold Blk at h; rw [Array.getElem?_eq_none hge] at h; cases h
theorem Blk.cell (h : Blk w g t cs) (i : Nat) : w.cell? ⟨g, i, none⟩ = cs[i]? := cell_of_row w g i cs t (0, 0) h
theorem Blk.frozen (h : Blk w g t cs) (i : Nat) : w.frozen? ⟨g, i, none⟩ = false := by
  unfold Blk at h
  simp [World.frozen?, h]
theorem Blk.new (w : World) (t : TypeId) (cs : Array Value) : Blk (w.alloc (.cells cs t)) w.heap.size t cs := heap_alloc_new w _
theorem Blk.drew (h : Blk w g t cs) : Blk w.drew g t cs := h
theorem Blk.drewN (h : Blk w g t cs) (n : Nat) : Blk (w.drewN n) g t cs := h
theorem Blk.alloc (h : Blk w g t cs) (o : Obj) : Blk (w.alloc o) g t cs := (Below.heap_alloc w o g h.lt).trans h
theorem Blk.set_ (h : Blk w g t cs) (i : Nat) (u : Value) : Blk (w.setCell ⟨g, i, none⟩ u) g t (cs.setIfInBounds i u) := by
  unfold Blk at h ⊢
  simp [World.setCell, Array.getElem?_modify, h]
theorem Blk.far (h : Blk w g t cs) {p : Addr} (hp : g ≠ p.block) (u : Value) : Blk (w.setCell p u) g t cs := (Below.heap_setCell w p u g hp).trans h
theorem Blk.below (h : Blk w g t cs) (hb : Below w.heap.size w w') : Blk w' g t cs := (hb.block g h.lt).trans h
end

/-- What a call that leaves old memory alone has left of it: two rules for the walk. -/
theorem bcell {W w1 : World} (hb : Below W.heap.size W w1) : (∀ b o, b < W.heap.size → w1.cell? ⟨b, o, none⟩ = W.cell? ⟨b, o, none⟩) ∧ (∀ b o, b < W.heap.size → w1.frozen? ⟨b, o, none⟩ = W.frozen? ⟨b, o, none⟩) :=
  ⟨fun b o h => hb.cell (p := ⟨b, o, none⟩) h, fun b o h => hb.frozen (p := ⟨b, o, none⟩) h⟩

theorem range_all_step {p : Nat → Bool} {k : Nat} (h : (List.range k).all p = true) (hp : p k = true) : (List.range (k + 1)).all p = true := by
  rw [List.range_succ, List.all_append, h]; simp [hp]
theorem range_all_stop {p : Nat → Bool} {k m : Nat} (hk : k < m) (hp : p k = false) : (List.range m).all p = false := by
  rw [List.all_eq_false]; exact ⟨k, by simpa using hk, by simp [hp]⟩
theorem ret_bool {a b : Bool} (h : a = b) : Ending.returned (.bool a) = .returned (.bool b) := by rw [h]
theorem ret_int {k : IntKind} {a b : Int} (h : a = b) : Ending.returned (.int k a) = .returned (.int k b) := by rw [h]

end Go.Proofs.Ytcjgcopkeeiicaa
