/- Plain: words between blanks; the text of a rule. -/
import Derived.Test.YtlcchafcgidpeaaDoorTxt
import Derived.Lib.Split
import Derived.Lib.IndexMore
import Derived.Lib.Join
namespace Go.Proofs.YtlcchafcgidpeaaDoor.Pl
open Go.Lib (decDigits decDigits_one decDigits_two index occAt)
set_option linter.unusedVariables false

/-- The pieces between the instances of a sign. -/
def words (b : UInt8) : List UInt8 → List (List UInt8)
  | [] => [[]]
  | x :: l => if x = b then [] :: words b l else match words b l with
    | [] => [[x]]
    | a :: r => (x :: a) :: r
theorem words_ne (b : UInt8) (l : List UInt8) : words b l ≠ [] := by
  cases l with
  | nil => simp [words]
  | cons x l =>
    simp only [words]
    split
    · simp
    · split <;> simp
/-- Signs ahead of the first piece. -/
def ahead (p : List UInt8) : List (List UInt8) → List (List UInt8)
  | [] => [p]
  | a :: r => (p ++ a) :: r
theorem ahead_nil (b : UInt8) (l : List UInt8) : ahead [] (words b l) = words b l := by
  cases h : words b l with
  | nil => exact absurd h (words_ne b l)
  | cons a r => rfl
theorem words_step {b x : UInt8} {l p : List UInt8} (hx : x ≠ b) : ahead p (words b (x :: l)) = ahead (p ++ [x]) (words b l) := by
  simp only [words]
  rw [if_neg hx]
  cases h : words b l with
  | nil => exact absurd h (words_ne b l)
  | cons a r => simp [ahead]
theorem words_cut {b : UInt8} {l p : List UInt8} : ahead p (words b (b :: l)) = p :: words b l := by
  simp [words, ahead]
theorem words_free {b : UInt8} : ∀ {a : List UInt8}, b ∉ a → words b a = [a]
  | [], _ => rfl
  | x :: a, h => by
    simp only [List.mem_cons, not_or] at h
    simp only [words]
    rw [if_neg (fun e => h.1 e.symm), words_free h.2]
theorem words_app {b : UInt8} : ∀ {a r : List UInt8}, b ∉ a → words b (a ++ b :: r) = a :: words b r
  | [], r, _ => by simp [words]
  | x :: a, r, h => by
    simp only [List.mem_cons, not_or] at h
    simp only [List.cons_append, words]
    rw [if_neg (fun e => h.1 e.symm), words_app h.2]
theorem first_of {b : UInt8} : ∀ {s : List UInt8}, b ∈ s → ∃ a r, s = a ++ b :: r ∧ b ∉ a
  | [], h => by simp at h
  | x :: s, h => by
    by_cases e : x = b
    · subst e; exact ⟨[], s, rfl, by simp⟩
    · have hs : b ∈ s := by
        rcases List.mem_cons.1 h with h | h
        · exact absurd h.symm e
        · exact h
      obtain ⟨a, r, rfl, ha⟩ := first_of hs
      exact ⟨x :: a, r, rfl, by simp only [List.mem_cons, not_or]; exact ⟨fun h => e h.symm, ha⟩⟩
theorem words_join (b : UInt8) (s : List UInt8) : Go.Lib.join (words b s) [b] = s := by
  unfold Go.Lib.join
  induction s with
  | nil => rfl
  | cons x s ih =>
    simp only [words]
    split
    · rename_i e
      subst e
      cases h : words x s with
      | nil => exact absurd h (words_ne x s)
      | cons a r => rw [h] at ih; simp [List.intercalate, List.intersperse] at ih ⊢; exact ih
    · cases h : words b s with
      | nil => exact absurd h (words_ne b s)
      | cons a r =>
        rw [h] at ih
        cases r with
        | nil => simp [List.intercalate] at ih ⊢; exact ih
        | cons c r => simp [List.intercalate, List.intersperse] at ih ⊢; exact ih
theorem words_mem (b : UInt8) (s : List UInt8) : ∀ a ∈ words b s, b ∉ a := by
  induction s with
  | nil => simp [words]
  | cons x s ih =>
    simp only [words]
    split
    · intro a ha
      rcases List.mem_cons.1 ha with rfl | ha
      · simp
      · exact ih a ha
    · rename_i e
      cases h : words b s with
      | nil => exact absurd h (words_ne b s)
      | cons c r =>
        rw [h] at ih
        intro a ha
        rcases List.mem_cons.1 ha with rfl | ha
        · have := ih c List.mem_cons_self
          simp only [List.mem_cons, not_or]
          exact ⟨fun h => e h.symm, this⟩
        · exact ih a (List.mem_cons_of_mem _ ha)
theorem words_len (b : UInt8) (s : List UInt8) : (words b s).length ≤ s.length + 1 := by
  induction s with
  | nil => simp [words]
  | cons x s ih =>
    simp only [words]
    split
    · simp; omega
    · cases h : words b s with
      | nil => exact absurd h (words_ne b s)
      | cons c r => rw [h] at ih; simp only [List.length_cons] at ih ⊢; omega
theorem words_each (b : UInt8) (s : List UInt8) : ∀ a ∈ words b s, a.length ≤ s.length := by
  induction s with
  | nil => simp [words]
  | cons x s ih =>
    simp only [words]
    split
    · intro a ha
      rcases List.mem_cons.1 ha with rfl | ha
      · simp
      · have := ih a ha; simp; omega
    · cases h : words b s with
      | nil => exact absurd h (words_ne b s)
      | cons c r =>
        rw [h] at ih
        intro a ha
        rcases List.mem_cons.1 ha with rfl | ha
        · have := ih c List.mem_cons_self; simp; omega
        · have := ih a (List.mem_cons_of_mem _ ha); simp; omega
theorem index_app {b : UInt8} {a r : List UInt8} (h : b ∉ a) (sub : List UInt8) (hs : sub.isPrefixOf (b :: r) = true) (hc : ∃ c, sub = b :: c) : index (a ++ b :: r) sub = a.length := by
  apply Go.Lib.index_first
  · simp
  · unfold occAt; rw [List.drop_left]; exact hs
  · intro j hj
    cases ho : occAt (a ++ b :: r) sub j with
    | false => rfl
    | true =>
      obtain ⟨c, rfl⟩ := hc
      have := Go.Lib.occAt_head rfl ho
      rw [List.getElem?_append_left hj] at this
      exact absurd (List.mem_of_getElem? this) h
theorem index_free {b : UInt8} {s : List UInt8} (h : b ∉ s) : index s [b] = -1 := by
  apply Go.Lib.index_none
  intro j hj
  cases ho : occAt s [b] j with
  | false => rfl
  | true => exact absurd (List.mem_of_getElem? (Go.Lib.occAt_head rfl ho)) h
theorem split_words (b : UInt8) : ∀ (n : Nat) (s : List UInt8), s.length < n → Go.Lib.splitK [b] 0 (Go.Lib.countFrom [b] n s) s = words b s
  | 0, s, h => by omega
  | n + 1, s, h => by
    by_cases hb : b ∈ s
    · obtain ⟨a, r, rfl, ha⟩ := first_of hb
      have hi := index_app ha [b] (by simp) ⟨[], rfl⟩ (r := r)
      have hd : (a ++ b :: r).drop (a.length + 1) = r := by rw [← List.drop_drop, List.drop_left]; rfl
      have hne : ((a.length : Int) == -1) = false := by rw [beq_eq_false_iff_ne]; omega
      simp only [Go.Lib.countFrom]
      rw [hi, hne, if_neg (by simp), Nat.add_comm 1]
      simp only [Go.Lib.splitK]
      rw [hi, hne, if_neg (by simp)]
      simp only [Int.toNat_natCast, Nat.add_zero, List.length_singleton]
      rw [hd, List.take_left, split_words b n r (by simp at h; omega), words_app ha]
    · have hi := index_free hb
      simp only [Go.Lib.countFrom]
      rw [hi, if_pos (by decide), words_free hb]
      rfl
theorem split_eq (b : UInt8) (s : List UInt8) : Go.Lib.splitK [b] 0 (Go.Lib.count s [b]) s = words b s := split_words b _ s (Nat.lt_succ_self _)

/-- No sign but its own stands in a term's text. -/
theorem Tk.mem {ns : List Int} {l : List UInt8} (h : Tk ns l) (hb : ∀ x ∈ ns, -100 ≤ x ∧ x ≤ 99) : (32 : UInt8) ∉ l := by
  induction h with
  | nil => simp
  | sign x hx h ih =>
    simp only [List.mem_cons, not_or]
    exact ⟨by rcases hx with rfl | rfl | rfl <;> decide, ih hb⟩
  | @tok ns l n h ih =>
    have hn := hb n List.mem_cons_self
    have hd : ∀ u : Nat, u < 100 → (32 : UInt8) ∉ decDigits u := fun u hu hm => by
      have := dec_dig hu _ hm
      revert this; decide
    rw [List.mem_append, not_or]
    refine ⟨?_, ih fun x hx => hb x (List.mem_cons_of_mem _ hx)⟩
    unfold Pl.tok
    split
    · simp only [List.mem_cons, not_or]; exact ⟨by decide, hd _ (by omega)⟩
    · simp only [List.mem_cons, not_or]; exact ⟨by decide, hd _ (by omega)⟩
theorem txt_free {ar t : List Int} (h : termOk ar t = true) : (32 : UInt8) ∉ txt ar t 0 :=
  (txt_tk h).1.mem fun x hx => by have := termOk_bd h x hx; omega
theorem txt_ne {ar t : List Int} (h : termOk ar t = true) : txt ar t 0 ≠ [] := by
  have hl := (termOk_iff.1 h).2.1
  rw [txt_eq h (by omega)]
  have := termOk_bd h (t.getD 0 0) (getD_mem (by omega))
  have := (tok_len (n := t.getD 0 0) (by omega) (by omega)).2
  intro e
  rw [List.append_eq_nil_iff] at e
  rw [e.1] at this
  simp at this
/-- What a text is read as: a term, at most 400 signs. -/
def readT (ar : List Int) (s : List UInt8) : Option (List Int) := termOf ar s (numsS s.length s [])
theorem readT_iff {ar t : List Int} {s : List UInt8} : readT ar s = some t ↔ termOk ar t = true ∧ txt ar t 0 = s := by
  constructor
  · exact termOf_iff
  · rintro ⟨h, rfl⟩; exact (termOf_text h).1
theorem readT_I (ar : List Int) (s : List UInt8) : termOf ar s (numsI s.length s []) = readT ar s := termOf_same ar s
/-- The two sides that a text names. -/
def sides (ar : List Int) (s : List UInt8) : Option (List Int × List Int) :=
  match words 32 s with
  | [a, m, b] => if m = [45, 62] then match readT ar a, readT ar b with
    | some l, some r => some (l, r)
    | _, _ => none
    else none
  | _ => none
def sidesI (ar : List Int) (s : List UInt8) : Option (List Int × List Int) :=
  if (Go.Lib.cut s [32, 45, 62, 32]).2.2 = true then match readT ar (Go.Lib.cut s [32, 45, 62, 32]).1, readT ar (Go.Lib.cut s [32, 45, 62, 32]).2.1 with
    | some l, some r => some (l, r)
    | _, _ => none
  else none
def arrow : List UInt8 := [32, 45, 62, 32]
theorem sides_iff {ar : List Int} {s : List UInt8} {l r : List Int} : sides ar s = some (l, r) ↔ termOk ar l = true ∧ termOk ar r = true ∧ s = txt ar l 0 ++ arrow ++ txt ar r 0 := by
  constructor
  · intro h
    unfold sides at h
    split at h
    · rename_i a m b hw
      split at h
      · rename_i hm
        split at h
        · rename_i l' r' h1 h2
          simp only [Option.some.injEq, Prod.mk.injEq] at h
          obtain ⟨rfl, rfl⟩ := h
          obtain ⟨h3, h4⟩ := readT_iff.1 h1
          obtain ⟨h5, h6⟩ := readT_iff.1 h2
          refine ⟨h3, h5, ?_⟩
          have := words_join 32 s
          rw [hw, hm, ← h4, ← h6] at this
          rw [← this]
          simp [Go.Lib.join, List.intercalate, arrow]
        · cases h
      · cases h
    · cases h
  · rintro ⟨h1, h2, rfl⟩
    have f1 := txt_free h1
    have f2 := txt_free h2
    unfold sides arrow
    have e : txt ar l 0 ++ [32, 45, 62, 32] ++ txt ar r 0 = txt ar l 0 ++ 32 :: ([45, 62] ++ 32 :: txt ar r 0) := by simp
    rw [e, words_app f1, words_app (by decide), words_free f2]
    simp [(readT_iff (s := txt ar l 0) (t := l)).2 ⟨h1, rfl⟩, (readT_iff (s := txt ar r 0) (t := r)).2 ⟨h2, rfl⟩]
theorem sidesI_iff {ar : List Int} {s : List UInt8} {l r : List Int} : sidesI ar s = some (l, r) ↔ termOk ar l = true ∧ termOk ar r = true ∧ s = txt ar l 0 ++ arrow ++ txt ar r 0 := by
  constructor
  · intro h
    unfold sidesI at h
    split at h
    · rename_i hc
      split at h
      · rename_i l' r' h1 h2
        simp only [Option.some.injEq, Prod.mk.injEq] at h
        obtain ⟨rfl, rfl⟩ := h
        obtain ⟨h3, h4⟩ := readT_iff.1 h1
        obtain ⟨h5, h6⟩ := readT_iff.1 h2
        refine ⟨h3, h5, ?_⟩
        unfold Go.Lib.cut at hc h4 h6
        split at hc
        · rename_i hi
          rw [if_pos hi] at h4 h6
          rw [h4, h6]
          rcases Go.Lib.index_spec s [32, 45, 62, 32] with ⟨k1, _⟩ | ⟨i, k1, k2, k3, _⟩
          · omega
          · rw [k1]
            unfold occAt at k3
            obtain ⟨q, hq⟩ := List.isPrefixOf_iff_prefix.1 k3
            have e1 : s = s.take i ++ s.drop i := (List.take_append_drop i s).symm
            have e2 : s.drop (i + 4) = q := by rw [← List.drop_drop, ← hq]; rfl
            simp only [Int.toNat_natCast, List.length_cons, List.length_nil]
            rw [show 0 + 1 + 1 + 1 + 1 = 4 from rfl, e2]
            unfold arrow
            rw [List.append_assoc, hq]
            exact e1
        · cases hc
      · cases h
    · cases h
  · rintro ⟨h1, h2, rfl⟩
    have f1 := txt_free h1
    have hi : index (txt ar l 0 ++ arrow ++ txt ar r 0) [32, 45, 62, 32] = (txt ar l 0).length := by
      have e : txt ar l 0 ++ arrow ++ txt ar r 0 = txt ar l 0 ++ 32 :: ([45, 62, 32] ++ txt ar r 0) := by simp [arrow]
      rw [e]
      exact index_app f1 _ (by simp) ⟨_, rfl⟩
    have hc : Go.Lib.cut (txt ar l 0 ++ arrow ++ txt ar r 0) [32, 45, 62, 32] = (txt ar l 0, txt ar r 0, true) := by
      unfold Go.Lib.cut
      rw [hi, if_pos (by omega)]
      simp only [Int.toNat_natCast]
      congr 1
      · rw [List.append_assoc, List.take_left]
      · congr 1
        rw [← List.drop_drop, List.append_assoc, List.drop_left]
        rfl
    unfold sidesI
    rw [hc]
    simp [(readT_iff (s := txt ar l 0) (t := l)).2 ⟨h1, rfl⟩, (readT_iff (s := txt ar r 0) (t := r)).2 ⟨h2, rfl⟩]
theorem sides_same (ar : List Int) (s : List UInt8) : sidesI ar s = sides ar s := by
  cases h1 : sidesI ar s with
  | some p => obtain ⟨l, r⟩ := p; rw [sides_iff.2 (sidesI_iff.1 h1)]
  | none =>
    cases h2 : sides ar s with
    | none => rfl
    | some p => obtain ⟨l, r⟩ := p; rw [sidesI_iff.2 (sides_iff.1 h2)] at h1; cases h1
/-- Words read as numbers, up to the first that is none. -/
def numsW : List (List UInt8) → Option (List Int)
  | [] => some []
  | a :: r => match readN a with
    | none => none
    | some n => (numsW r).map (n :: ·)
theorem foldl_ge (l : List UInt8) (h : l.all isDig = true) : ∀ (n : Int), 0 ≤ n → n ≤ l.foldl (fun n x => 10 * n + ((x.toNat : Int) - 48)) n := by
  induction l with
  | nil => intro n _; exact Int.le_refl _
  | cons x l ih =>
    intro n hn
    simp only [List.all_cons, Bool.and_eq_true] at h
    have hx : 48 ≤ x.toNat ∧ x.toNat ≤ 57 := by simpa [isDig] using h.1
    have := ih h.2 (10 * n + ((x.toNat : Int) - 48)) (by omega)
    simp only [List.foldl_cons]
    omega
theorem readN_ge {l : List UInt8} {n : Int} (h : readN l = some n) : 0 ≤ n := by
  unfold readN at h
  split at h
  · cases h
  · split at h
    · rename_i ha
      injection h with h
      have := foldl_ge l ha 0 (by omega)
      omega
    · cases h
theorem readN_small {l : List UInt8} {n : Int} (h : readN l = some n) (hn : n < 10) : l = decDigits n.toNat := by
  have h0 := readN_ge h
  unfold readN at h
  split at h
  · cases h
  · rename_i hc
    split at h
    · rename_i ha
      injection h with h
      cases l with
      | nil => simp at hc
      | cons x l =>
        simp only [List.all_cons, Bool.and_eq_true] at ha
        have hx : 48 ≤ x.toNat ∧ x.toNat ≤ 57 := by simpa [isDig] using ha.1
        cases l with
        | nil =>
          simp only [List.foldl_cons, List.foldl_nil] at h
          rw [decDigits_one (by omega)]
          congr 1
          apply UInt8.toNat_inj.1
          rw [UInt8.toNat_ofNat']
          omega
        | cons y l =>
          have hx48 : x ≠ 48 := fun e => hc (Or.inr (Or.inr ⟨by simp [e], by simp⟩))
          have hx1 : x.toNat ≠ 48 := fun e => hx48 (UInt8.toNat_inj.1 e)
          have hy := ha.2
          simp only [List.all_cons, Bool.and_eq_true] at hy
          have hy1 : 48 ≤ y.toNat ∧ y.toNat ≤ 57 := by simpa [isDig] using hy.1
          simp only [List.foldl_cons] at h
          have := foldl_ge l hy.2 (10 * (10 * 0 + ((x.toNat : Int) - 48)) + ((y.toNat : Int) - 48)) (by omega)
          omega
    · cases h
/-- The text of a signature, and what a text is read as. -/
def sigTxt (xs : List Int) : List UInt8 := Go.Lib.join (xs.map fun n => decDigits n.toNat) [32]
theorem numsW_small : ∀ {W : List (List UInt8)} {xs : List Int}, numsW W = some xs → (∀ x ∈ xs, x < 10) → W = xs.map fun n => decDigits n.toNat
  | [], xs, h, _ => by simp [numsW] at h; subst h; rfl
  | a :: r, xs, h, hb => by
    simp only [numsW] at h
    split at h
    · cases h
    · rename_i n hn
      simp only [Option.map_eq_some_iff] at h
      obtain ⟨ys, hy, rfl⟩ := h
      rw [List.map_cons, ← readN_small hn (hb n List.mem_cons_self), ← numsW_small hy fun x hx => hb x (List.mem_cons_of_mem _ hx)]
def readS (s : List UInt8) : Option (List Int) :=
  match numsW (words 32 s) with
  | none => none
  | some xs => if sigOk xs = true then some xs else none
theorem readS_txt {s : List UInt8} {xs : List Int} (h : readS s = some xs) : sigOk xs = true ∧ sigTxt xs = s := by
  unfold readS at h
  split at h
  · cases h
  · rename_i ys hy
    split at h
    · rename_i hs
      injection h with h
      subst h
      refine ⟨hs, ?_⟩
      unfold sigTxt
      rw [← numsW_small hy fun x hx => by have := (sigOk_iff.1 hs).2 x hx; omega]
      exact words_join 32 s
    · cases h
end Go.Proofs.YtlcchafcgidpeaaDoor.Pl
