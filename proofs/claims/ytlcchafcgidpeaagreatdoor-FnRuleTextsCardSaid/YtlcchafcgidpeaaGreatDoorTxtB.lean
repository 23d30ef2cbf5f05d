/- Plain: the text of a term; what two readers find in it. No program in sight. -/
import Derived.Test.YtlcchafcgidpeaaGreatDoorPlainB
import Derived.Lib.ItoaNum
import Derived.Lib.Split
import Derived.Lib.IndexMore
import Derived.Lib.Join
namespace Go.Proofs.YtlcchafcgidpeaaGreatDoor.Pl
open Go.Lib (decDigits decDigits_one decDigits_two)
set_option linter.unusedVariables false

def isDig (x : UInt8) : Bool := decide (48 ≤ x.toNat ∧ x.toNat ≤ 57)
/-- A symbol's or a variable's own sign and number. -/
def tok (n : Int) : List UInt8 := if n < 0 then 120 :: decDigits (-1 - n).toNat else 102 :: decDigits n.toNat
/-- The arguments' texts, the last bracket left out. -/
def part (g : Nat → List UInt8) : List Nat → List UInt8
  | [] => []
  | q :: qs => 40 :: (g q ++ qs.flatMap fun q => 44 :: g q)
def brack (g : Nat → List UInt8) (L : List Nat) : List UInt8 := part g L ++ if L.length = 0 then [] else [41]
def textF (f : Int → Int) (t : List Int) : Nat → Nat → List UInt8
  | 0, _ => []
  | k + 1, p => tok (t.getD p 0) ++ brack (textF f t k) (args f t p)
/-- The text of what begins at a place. -/
def txt (ar t : List Int) (p : Nat) : List UInt8 := textF (ari ar) t t.length p

theorem part_zero (g : Nat → List UInt8) (L : List Nat) : part g (L.take 0) = [] := rfl
theorem part_step (g : Nat → List UInt8) {L : List Nat} {j : Nat} (hj : j < L.length) : part g (L.take (j + 1)) = part g (L.take j) ++ ((if j = 0 then 40 else 44) :: g (L.getD j 0)) := by
  cases L with
  | nil => simp at hj
  | cons q qs =>
    cases j with
    | zero => simp [part]
    | succ j =>
      have hj' : j < qs.length := by simpa using hj
      simp only [List.take_succ_cons, part]
      rw [List.take_succ_eq_append_getElem hj', List.flatMap_append]
      simp [List.getD_eq_getElem?_getD, hj']
theorem part_congr {g g' : Nat → List UInt8} : ∀ {L : List Nat}, (∀ q ∈ L, g q = g' q) → part g L = part g' L
  | [], _ => rfl
  | q :: qs, h => by
    have : (qs.flatMap fun q => 44 :: g q) = qs.flatMap fun q => 44 :: g' q := by
      rw [List.flatMap_def, List.flatMap_def]
      congr 1
      exact List.map_congr_left fun x hx => by rw [h x (List.mem_cons_of_mem _ hx)]
    simp only [part]
    rw [h q List.mem_cons_self, this]
theorem brack_congr {g g' : Nat → List UInt8} {L : List Nat} (h : ∀ q ∈ L, g q = g' q) : brack g L = brack g' L := by unfold brack; rw [part_congr h]
theorem textF_fuel {f : Int → Int} {t : List Int} (h : run f 1 t = some t.length) : ∀ (k k' p : Nat), p < t.length → t.length - p ≤ k → t.length - p ≤ k' → textF f t k p = textF f t k' p
  | 0, _, p, hp, h1, _ => by omega
  | _ + 1, 0, p, hp, _, h2 => by omega
  | k + 1, k' + 1, p, hp, h1, h2 => by
    simp only [textF]
    congr 1
    apply brack_congr
    intro q hq
    have := args_mem h hp q hq
    exact textF_fuel h k k' q this.2.2.1 (by omega) (by omega)
theorem txt_eq {ar t : List Int} (h : termOk ar t = true) {p : Nat} (hp : p < t.length) : txt ar t p = tok (t.getD p 0) ++ brack (txt ar t) (args (ari ar) t p) := by
  have hr := (termOk_iff.1 h).2.2
  obtain ⟨k, hk⟩ : ∃ k, t.length = k + 1 := ⟨t.length - 1, by omega⟩
  unfold txt
  rw [show textF (ari ar) t t.length p = textF (ari ar) t (k + 1) p from by rw [hk]]
  simp only [textF]
  congr 1
  apply brack_congr
  intro q hq
  have := args_mem hr hp q hq
  exact textF_fuel hr k t.length q this.2.2.1 (by omega) (by omega)

/-- A text of numbers, each with its sign, and other signs between them. -/
inductive Tk : List Int → List UInt8 → Prop
  | nil : Tk [] []
  | sign {ns : List Int} {l : List UInt8} (x : UInt8) (hx : x = 40 ∨ x = 44 ∨ x = 41) (h : Tk ns l) : Tk ns (x :: l)
  | tok {ns : List Int} {l : List UInt8} (n : Int) (h : Tk ns l) : Tk (n :: ns) (tok n ++ l)
theorem Tk.app {a : List Int} {l : List UInt8} (h : Tk a l) : ∀ {b : List Int} {m : List UInt8}, Tk b m → Tk (a ++ b) (l ++ m) := by
  induction h with
  | nil => intro b m h; simpa using h
  | sign x hx h ih => intro b m k; exact Tk.sign x hx (ih k)
  | tok n h ih => intro b m k; rw [List.append_assoc]; exact Tk.tok n (ih k)
theorem tok_len {n : Int} (h1 : -100 ≤ n) (h2 : n ≤ 99) : (tok n).length ≤ 3 ∧ 2 ≤ (tok n).length := by
  have key : ∀ u : Nat, u < 100 → (decDigits u).length ≤ 2 ∧ 1 ≤ (decDigits u).length := by
    intro u hu
    by_cases h : u < 10
    · rw [decDigits_one h]; simp
    · rw [decDigits_two h hu]; simp
  unfold tok
  split
  · have := key (-1 - n).toNat (by omega); simp only [List.length_cons]; omega
  · have := key n.toNat (by omega); simp only [List.length_cons]; omega

/-- What a term's text is made of, and its length. -/
theorem textF_tk {f : Int → Int} {t : List Int} (h : run f 1 t = some t.length) (hb : ∀ x ∈ t, -100 ≤ x ∧ x ≤ 99) : ∀ (k p : Nat), p < t.length → t.length - p ≤ k →
    Tk ((t.drop p).take (fin f t p - p)) (textF f t k p) ∧ (textF f t k p).length + 1 ≤ 5 * (fin f t p - p)
  | 0, p, hp, hk => by omega
  | k + 1, p, hp, hk => by
    have ih : ∀ q, p < q → q < t.length → Tk ((t.drop q).take (fin f t q - q)) (textF f t k q) ∧ (textF f t k q).length + 1 ≤ 5 * (fin f t q - q) := fun q h1 h2 => textF_tk h hb k q h2 (by omega)
    obtain ⟨j, hj, hjl, hj1⟩ := run_at h hp
    have hfin : fin f t p = p + j := by unfold fin; rw [hj]; rfl
    rw [hfin, show p + j - p = j by omega]
    have hd : t.drop p = t.getD p 0 :: t.drop (p + 1) := by
      rw [List.drop_eq_getElem_cons hp]; simp [List.getD_eq_getElem?_getD, hp]
    have hx := hb (t.getD p 0) (getD_mem hp)
    obtain ⟨i, rfl⟩ : ∃ i, j = i + 1 := ⟨j - 1, by omega⟩
    have hi : run f (f (t.getD p 0)).toNat (t.drop (p + 1)) = some i := by
      rw [hd] at hj
      simp only [run] at hj
      split at hj
      · cases hj
      · simp only [Option.map_eq_some_iff, Nat.zero_add] at hj
        obtain ⟨i', h1, h2⟩ := hj
        rw [h1]; congr 1; omega
    -- the arguments, each with a comma ahead
    have tail : ∀ (c q i : Nat), p < q → run f c (t.drop q) = some i → q + i ≤ t.length → Tk ((t.drop q).take i) ((argsFrom f t c q).flatMap fun q => 44 :: textF f t k q) ∧ ((argsFrom f t c q).flatMap fun q => 44 :: textF f t k q).length ≤ 5 * i := by
      intro c
      induction c with
      | zero =>
        intro q i hq hc _
        rw [run_zero] at hc
        cases hc
        simpa [argsFrom] using Tk.nil
      | succ c ihc =>
        intro q i hq hc hl
        rw [show c + 1 = 1 + c by omega, run_add] at hc
        cases h1 : run f 1 (t.drop q) with
        | none => rw [h1] at hc; cases hc
        | some a =>
          rw [h1] at hc
          simp only [Option.bind_some, Option.map_eq_some_iff, List.drop_drop] at hc
          obtain ⟨b, h2, rfl⟩ := hc
          have hfq : fin f t q = q + a := by unfold fin; rw [h1]; rfl
          have ha := (run_le h1)
          rw [List.length_drop] at ha
          have iq := ih q hq (by omega)
          rw [hfq, show q + a - q = a by omega] at iq
          have ib := ihc (q + a) b (by omega) h2 (by omega)
          have e : argsFrom f t (c + 1) q = q :: argsFrom f t c (q + a) := by simp only [argsFrom]; rw [hfq]
          rw [e, List.flatMap_cons]
          constructor
          · rw [List.take_add, List.drop_drop]
            exact (Tk.sign 44 (Or.inr (Or.inl rfl)) iq.1).app ib.1
          · rw [List.length_append, List.length_cons]; omega
    simp only [textF, args]
    have hc0 : ∀ c : Nat, c = (f (t.getD p 0)).toNat → Tk ((t.drop (p + 1)).take i) (brack (textF f t k) (argsFrom f t c (p + 1))) ∧ (brack (textF f t k) (argsFrom f t c (p + 1))).length ≤ 5 * i + 1 := by
      rintro c hc
      rw [← hc] at hi
      cases c with
      | zero =>
        rw [run_zero] at hi
        cases hi
        simpa [argsFrom, brack, part] using Tk.nil
      | succ c =>
        have hj2 := hjl
        rw [show c + 1 = 1 + c by omega, run_add] at hi
        cases h1 : run f 1 (t.drop (p + 1)) with
        | none => rw [h1] at hi; cases hi
        | some a =>
          rw [h1] at hi
          simp only [Option.bind_some, Option.map_eq_some_iff, List.drop_drop] at hi
          obtain ⟨b, h2, rfl⟩ := hi
          have hfq : fin f t (p + 1) = p + 1 + a := by unfold fin; rw [h1]; rfl
          have ha := (run_le h1)
          rw [List.length_drop] at ha
          have iq := ih (p + 1) (by omega) (by omega)
          rw [hfq, show p + 1 + a - (p + 1) = a by omega] at iq
          have ib := tail c (p + 1 + a) b (by omega) h2 (by omega)
          have e : argsFrom f t (c + 1) (p + 1) = (p + 1) :: argsFrom f t c (p + 1 + a) := by simp only [argsFrom]; rw [hfq]
          rw [e]
          unfold brack part
          rw [if_neg (by simp)]
          constructor
          · rw [List.take_add, List.drop_drop]
            have t1 := ((Tk.sign 40 (Or.inl rfl) iq.1).app ib.1).app (Tk.sign 41 (Or.inr (Or.inr rfl)) Tk.nil)
            simpa using t1
          · simp only [List.length_append, List.length_cons, List.length_nil]; omega
    have hcc := hc0 _ rfl
    have htl := tok_len hx.1 hx.2
    constructor
    · rw [hd, List.take_succ_cons]
      exact Tk.tok _ hcc.1
    · rw [List.length_append]; omega
theorem txt_tk {ar t : List Int} (h : termOk ar t = true) : Tk t (txt ar t 0) ∧ (txt ar t 0).length ≤ 299 := by
  obtain ⟨h1, h2, h3⟩ := termOk_iff.1 h
  have hb : ∀ x ∈ t, -100 ≤ x ∧ x ≤ 99 := fun x hx => by have := termOk_bd h x hx; omega
  have := textF_tk h3 hb t.length 0 (by omega) (by omega)
  have hf : fin (ari ar) t 0 = t.length := by unfold fin; rw [List.drop_zero, h3]; simp
  rw [hf, Nat.sub_zero, List.drop_zero, List.take_length] at this
  exact ⟨this.1, by unfold txt; omega⟩
theorem txt_len {ar t : List Int} (h : termOk ar t = true) {p : Nat} (hp : p < t.length) : (txt ar t p).length ≤ 299 := by
  obtain ⟨h1, h2, h3⟩ := termOk_iff.1 h
  have hb : ∀ x ∈ t, -100 ≤ x ∧ x ≤ 99 := fun x hx => by have := termOk_bd h x hx; omega
  have := (textF_tk h3 hb t.length p hp (by omega)).2
  have hf := (fin_of h3 hp)
  have hl : fin (ari ar) t p ≤ t.length := by
    obtain ⟨j, hj, hjl, hj1⟩ := run_at h3 hp
    unfold fin; rw [hj]; exact hjl
  unfold txt; omega

/-- A number in decimal: one to nine digits, no zero ahead. -/
def readN (l : List UInt8) : Option Int :=
  if l.length < 1 ∨ 9 < l.length ∨ (l.head? = some 48 ∧ 1 < l.length) then none
  else if l.all isDig then some (l.foldl (fun n x => 10 * n + ((x.toNat : Int) - 48)) 0) else none
theorem readN_dec {u : Nat} (h : u < 100) : readN (decDigits u) = some (u : Int) := by
  by_cases h1 : u < 10
  · rw [decDigits_one h1]
    have : ∀ i : Fin 10, readN [UInt8.ofNat (48 + i.val)] = some (i.val : Int) := by decide +kernel
    exact this ⟨u, h1⟩
  · rw [decDigits_two h1 h]
    have : ∀ i : Fin 100, 10 ≤ i.val → readN [UInt8.ofNat (48 + i.val / 10), UInt8.ofNat (48 + i.val % 10)] = some (i.val : Int) := by decide +kernel
    exact this ⟨u, h⟩ (by show 10 ≤ u; omega)
theorem dec_dig {u : Nat} (h : u < 100) : ∀ x ∈ decDigits u, isDig x = true := by
  by_cases h1 : u < 10
  · rw [decDigits_one h1]
    have : ∀ i : Fin 10, isDig (UInt8.ofNat (48 + i.val)) = true := by decide +kernel
    intro x hx
    rw [List.mem_singleton] at hx
    subst hx
    exact this ⟨u, h1⟩
  · rw [decDigits_two h1 h]
    have k1 : ∀ i : Fin 100, isDig (UInt8.ofNat (48 + i.val / 10)) = true ∧ isDig (UInt8.ofNat (48 + i.val % 10)) = true := by decide +kernel
    intro x hx
    simp only [List.mem_cons, List.not_mem_nil, or_false] at hx
    rcases hx with rfl | rfl
    · exact (k1 ⟨u, h⟩).1
    · exact (k1 ⟨u, h⟩).2

/-- What the reference reads: the numbers behind each x and f, at most sixty. -/
def numsS : Nat → List UInt8 → List Int → Option (List Int)
  | 0, _, acc => some acc
  | _ + 1, [], acc => some acc
  | k + 1, x :: l, acc =>
    if x ≠ 120 ∧ x ≠ 102 then numsS k l acc
    else match readN (l.takeWhile isDig) with
      | none => none
      | some n => if 60 ≤ acc.length then none else numsS k (l.dropWhile isDig) (acc ++ [if x = 120 then -1 - n else n])
/-- What the program reads: it takes no sign but brackets and commas besides. -/
def numsI : Nat → List UInt8 → List Int → Option (List Int)
  | 0, _, acc => some acc
  | _ + 1, [], acc => some acc
  | k + 1, x :: l, acc =>
    if x = 40 ∨ x = 44 ∨ x = 41 then numsI k l acc
    else match readN (l.takeWhile isDig) with
      | none => none
      | some n => if x ≠ 120 ∧ x ≠ 102 then none else numsI k (l.dropWhile isDig) (acc ++ [if x = 120 then -1 - n else n])
theorem Tk.head {ns : List Int} {l : List UInt8} (h : Tk ns l) : ∀ x, l.head? = some x → isDig x = false := by
  intro x hx
  cases h with
  | nil => simp at hx
  | sign y hy h => simp at hx; subst hx; rcases hy with rfl | rfl | rfl <;> decide
  | tok n h =>
    unfold Pl.tok at hx
    split at hx
    · simp at hx; subst hx; decide
    · simp at hx; subst hx; decide
theorem while_app {a l : List UInt8} (ha : ∀ x ∈ a, isDig x = true) (hl : ∀ x, l.head? = some x → isDig x = false) : (a ++ l).takeWhile isDig = a ∧ (a ++ l).dropWhile isDig = l := by
  induction a with
  | nil =>
    cases l with
    | nil => simp
    | cons x l => have := hl x rfl; simp [this]
  | cons y a ih =>
    have h1 := ha y List.mem_cons_self
    have h2 := ih fun x hx => ha x (List.mem_cons_of_mem _ hx)
    simp [h1, h2.1, h2.2]
theorem numsS_tk {ns : List Int} {l : List UInt8} (h : Tk ns l) : ∀ (k : Nat) (acc : List Int), l.length ≤ k → (∀ x ∈ ns, -100 ≤ x ∧ x ≤ 99) → acc.length + ns.length ≤ 60 → numsS k l acc = some (acc ++ ns) := by
  induction h with
  | nil => intro k acc _ _ _; cases k <;> simp [numsS]
  | sign x hx h ih =>
    intro k acc hk hb ha
    cases k with
    | zero => simp at hk
    | succ k =>
      simp only [numsS]
      rw [if_pos (by rcases hx with rfl | rfl | rfl <;> decide)]
      exact ih k acc (by simpa using hk) hb ha
  | @tok ns l n h ih =>
    intro k acc hk hb ha
    have hn := hb n List.mem_cons_self
    have hns := fun x hx => hb x (List.mem_cons_of_mem _ hx)
    simp only [List.length_cons] at ha
    have htl := tok_len hn.1 hn.2
    rw [List.length_append] at hk
    by_cases h0 : n < 0
    · have e : tok n = 120 :: decDigits (-1 - n).toNat := by unfold tok; rw [if_pos h0]
      have hu : (-1 - n).toNat < 100 := by omega
      obtain ⟨w1, w2⟩ := while_app (dec_dig hu) h.head
      rw [e]
      cases k with
      | zero => omega
      | succ k =>
        simp only [List.cons_append, numsS]
        rw [if_neg (by decide), w1, readN_dec hu, w2]
        simp only
        rw [if_neg (by omega), if_pos trivial, show -1 - (((-1 - n).toNat : Nat) : Int) = n by omega, ih k _ (by omega) hns (by simp; omega), List.append_assoc]
        rfl
    · have e : tok n = 102 :: decDigits n.toNat := by unfold tok; rw [if_neg h0]
      have hu : n.toNat < 100 := by omega
      obtain ⟨w1, w2⟩ := while_app (dec_dig hu) h.head
      rw [e]
      cases k with
      | zero => omega
      | succ k =>
        simp only [List.cons_append, numsS]
        rw [if_neg (by decide), w1, readN_dec hu, w2]
        simp only
        rw [if_neg (by omega), if_neg (by decide), show ((n.toNat : Nat) : Int) = n by omega, ih k _ (by omega) hns (by simp; omega), List.append_assoc]
        rfl
theorem numsI_tk {ns : List Int} {l : List UInt8} (h : Tk ns l) : ∀ (k : Nat) (acc : List Int), l.length ≤ k → (∀ x ∈ ns, -100 ≤ x ∧ x ≤ 99) → numsI k l acc = some (acc ++ ns) := by
  induction h with
  | nil => intro k acc _ _; cases k <;> simp [numsI]
  | sign x hx h ih =>
    intro k acc hk hb
    cases k with
    | zero => simp at hk
    | succ k =>
      simp only [numsI]
      rw [if_pos hx]
      exact ih k acc (by simpa using hk) hb
  | @tok ns l n h ih =>
    intro k acc hk hb
    have hn := hb n List.mem_cons_self
    have hns := fun x hx => hb x (List.mem_cons_of_mem _ hx)
    have htl := tok_len hn.1 hn.2
    rw [List.length_append] at hk
    by_cases h0 : n < 0
    · have e : tok n = 120 :: decDigits (-1 - n).toNat := by unfold tok; rw [if_pos h0]
      have hu : (-1 - n).toNat < 100 := by omega
      obtain ⟨w1, w2⟩ := while_app (dec_dig hu) h.head
      rw [e]
      cases k with
      | zero => omega
      | succ k =>
        simp only [List.cons_append, numsI]
        rw [if_neg (by decide), w1, readN_dec hu, w2]
        simp only
        rw [if_neg (by decide), if_pos trivial, show -1 - (((-1 - n).toNat : Nat) : Int) = n by omega, ih k _ (by omega) hns, List.append_assoc]
        rfl
    · have e : tok n = 102 :: decDigits n.toNat := by unfold tok; rw [if_neg h0]
      have hu : n.toNat < 100 := by omega
      obtain ⟨w1, w2⟩ := while_app (dec_dig hu) h.head
      rw [e]
      cases k with
      | zero => omega
      | succ k =>
        simp only [List.cons_append, numsI]
        rw [if_neg (by decide), w1, readN_dec hu, w2]
        simp only
        rw [if_neg (by decide), if_neg (by decide), show ((n.toNat : Nat) : Int) = n by omega, ih k _ (by omega) hns, List.append_assoc]
        rfl
/-- What a text is read as: the one term that has this text. -/
def termOf (ar : List Int) (s : List UInt8) (r : Option (List Int)) : Option (List Int) :=
  match r with
  | none => none
  | some t => if termOk ar t = true ∧ txt ar t 0 = s then some t else none
theorem termOf_text {ar t : List Int} (h : termOk ar t = true) : termOf ar (txt ar t 0) (numsS (txt ar t 0).length (txt ar t 0) []) = some t ∧ termOf ar (txt ar t 0) (numsI (txt ar t 0).length (txt ar t 0) []) = some t := by
  have hb : ∀ x ∈ t, -100 ≤ x ∧ x ≤ 99 := fun x hx => by have := termOk_bd h x hx; omega
  have hl := (termOk_iff.1 h).2.1
  have hk := (txt_tk h).1
  rw [numsS_tk hk _ [] (Nat.le_refl _) hb (by simpa using hl.2), numsI_tk hk _ [] (Nat.le_refl _) hb]
  simp [termOf, h]
theorem termOf_iff {ar : List Int} {s : List UInt8} {r : Option (List Int)} {t : List Int} (h : termOf ar s r = some t) : termOk ar t = true ∧ txt ar t 0 = s := by
  unfold termOf at h
  split at h
  · cases h
  · split at h
    · rename_i hh
      injection h with h
      subst h
      exact hh
    · cases h
/-- The two readers agree. -/
theorem termOf_same (ar : List Int) (s : List UInt8) : termOf ar s (numsI s.length s []) = termOf ar s (numsS s.length s []) := by
  cases h1 : termOf ar s (numsI s.length s []) with
  | some t =>
    obtain ⟨ht, rfl⟩ := termOf_iff h1
    rw [(termOf_text ht).1]
  | none =>
    cases h2 : termOf ar s (numsS s.length s []) with
    | none => rfl
    | some t =>
      obtain ⟨ht, rfl⟩ := termOf_iff h2
      rw [(termOf_text ht).2] at h1
      cases h1
end Go.Proofs.YtlcchafcgidpeaaGreatDoor.Pl
/-! Plain: words between blanks; the text of a rule. -/

namespace Go.Proofs.YtlcchafcgidpeaaGreatDoor.Pl
open Go.Lib (decDigits decDigits_one decDigits_two index occAt)
set_option linter.unusedVariables false

/-- The pieces between the instances of a sign. -/
def words (b : UInt8) : List UInt8 → List (List UInt8)
  | [] => [[]]
  | x :: l => if x = b then [] :: words b l else match words b l with
    | [] => [[x]]
    | a :: r => (x :: a) :: r
theorem words_ne (b : UInt8) (l : List UInt8) : words b l ≠ [] := by
  cases l with
  | nil => simp [words]
  | cons x l =>
    simp only [words]
    split
    · simp
    · split <;> simp
/-- Signs ahead of the first piece. -/
def ahead (p : List UInt8) : List (List UInt8) → List (List UInt8)
  | [] => [p]
  | a :: r => (p ++ a) :: r
theorem ahead_nil (b : UInt8) (l : List UInt8) : ahead [] (words b l) = words b l := by
  cases h : words b l with
  | nil => exact absurd h (words_ne b l)
  | cons a r => rfl
theorem words_step {b x : UInt8} {l p : List UInt8} (hx : x ≠ b) : ahead p (words b (x :: l)) = ahead (p ++ [x]) (words b l) := by
  simp only [words]
  rw [if_neg hx]
  cases h : words b l with
  | nil => exact absurd h (words_ne b l)
  | cons a r => simp [ahead]
theorem words_cut {b : UInt8} {l p : List UInt8} : ahead p (words b (b :: l)) = p :: words b l := by
  simp [words, ahead]
theorem words_free {b : UInt8} : ∀ {a : List UInt8}, b ∉ a → words b a = [a]
  | [], _ => rfl
  | x :: a, h => by
    simp only [List.mem_cons, not_or] at h
    simp only [words]
    rw [if_neg (fun e => h.1 e.symm), words_free h.2]
theorem words_app {b : UInt8} : ∀ {a r : List UInt8}, b ∉ a → words b (a ++ b :: r) = a :: words b r
  | [], r, _ => by simp [words]
  | x :: a, r, h => by
    simp only [List.mem_cons, not_or] at h
    simp only [List.cons_append, words]
    rw [if_neg (fun e => h.1 e.symm), words_app h.2]
theorem first_of {b : UInt8} : ∀ {s : List UInt8}, b ∈ s → ∃ a r, s = a ++ b :: r ∧ b ∉ a
  | [], h => by simp at h
  | x :: s, h => by
    by_cases e : x = b
    · subst e; exact ⟨[], s, rfl, by simp⟩
    · have hs : b ∈ s := by
        rcases List.mem_cons.1 h with h | h
        · exact absurd h.symm e
        · exact h
      obtain ⟨a, r, rfl, ha⟩ := first_of hs
      exact ⟨x :: a, r, rfl, by simp only [List.mem_cons, not_or]; exact ⟨fun h => e h.symm, ha⟩⟩
theorem words_join (b : UInt8) (s : List UInt8) : Go.Lib.join (words b s) [b] = s := by
  unfold Go.Lib.join
  induction s with
  | nil => rfl
  | cons x s ih =>
    simp only [words]
    split
    · rename_i e
      subst e
      cases h : words x s with
      | nil => exact absurd h (words_ne x s)
      | cons a r => rw [h] at ih; simp [List.intercalate, List.intersperse] at ih ⊢; exact ih
    · cases h : words b s with
      | nil => exact absurd h (words_ne b s)
      | cons a r =>
        rw [h] at ih
        cases r with
        | nil => simp [List.intercalate] at ih ⊢; exact ih
        | cons c r => simp [List.intercalate, List.intersperse] at ih ⊢; exact ih
theorem words_mem (b : UInt8) (s : List UInt8) : ∀ a ∈ words b s, b ∉ a := by
  induction s with
  | nil => simp [words]
  | cons x s ih =>
    simp only [words]
    split
    · intro a ha
      rcases List.mem_cons.1 ha with rfl | ha
      · simp
      · exact ih a ha
    · rename_i e
      cases h : words b s with
      | nil => exact absurd h (words_ne b s)
      | cons c r =>
        rw [h] at ih
        intro a ha
        rcases List.mem_cons.1 ha with rfl | ha
        · have := ih c List.mem_cons_self
          simp only [List.mem_cons, not_or]
          exact ⟨fun h => e h.symm, this⟩
        · exact ih a (List.mem_cons_of_mem _ ha)
theorem words_len (b : UInt8) (s : List UInt8) : (words b s).length ≤ s.length + 1 := by
  induction s with
  | nil => simp [words]
  | cons x s ih =>
    simp only [words]
    split
    · simp; omega
    · cases h : words b s with
      | nil => exact absurd h (words_ne b s)
      | cons c r => rw [h] at ih; simp only [List.length_cons] at ih ⊢; omega
theorem words_each (b : UInt8) (s : List UInt8) : ∀ a ∈ words b s, a.length ≤ s.length := by
  induction s with
  | nil => simp [words]
  | cons x s ih =>
    simp only [words]
    split
    · intro a ha
      rcases List.mem_cons.1 ha with rfl | ha
      · simp
      · have := ih a ha; simp; omega
    · cases h : words b s with
      | nil => exact absurd h (words_ne b s)
      | cons c r =>
        rw [h] at ih
        intro a ha
        rcases List.mem_cons.1 ha with rfl | ha
        · have := ih c List.mem_cons_self; simp; omega
        · have := ih a (List.mem_cons_of_mem _ ha); simp; omega
theorem index_app {b : UInt8} {a r : List UInt8} (h : b ∉ a) (sub : List UInt8) (hs : sub.isPrefixOf (b :: r) = true) (hc : ∃ c, sub = b :: c) : index (a ++ b :: r) sub = a.length := by
  apply Go.Lib.index_first
  · simp
  · unfold occAt; rw [List.drop_left]; exact hs
  · intro j hj
    cases ho : occAt (a ++ b :: r) sub j with
    | false => rfl
    | true =>
      obtain ⟨c, rfl⟩ := hc
      have := Go.Lib.occAt_head rfl ho
      rw [List.getElem?_append_left hj] at this
      exact absurd (List.mem_of_getElem? this) h
theorem index_free {b : UInt8} {s : List UInt8} (h : b ∉ s) : index s [b] = -1 := by
  apply Go.Lib.index_none
  intro j hj
  cases ho : occAt s [b] j with
  | false => rfl
  | true => exact absurd (List.mem_of_getElem? (Go.Lib.occAt_head rfl ho)) h
theorem split_words (b : UInt8) : ∀ (n : Nat) (s : List UInt8), s.length < n → Go.Lib.splitK [b] 0 (Go.Lib.countFrom [b] n s) s = words b s
  | 0, s, h => by omega
  | n + 1, s, h => by
    by_cases hb : b ∈ s
    · obtain ⟨a, r, rfl, ha⟩ := first_of hb
      have hi := index_app ha [b] (by simp) ⟨[], rfl⟩ (r := r)
      have hd : (a ++ b :: r).drop (a.length + 1) = r := by rw [← List.drop_drop, List.drop_left]; rfl
      have hne : ((a.length : Int) == -1) = false := by rw [beq_eq_false_iff_ne]; omega
      simp only [Go.Lib.countFrom]
      rw [hi, hne, if_neg (by simp), Nat.add_comm 1]
      simp only [Go.Lib.splitK]
      rw [hi, hne, if_neg (by simp)]
      simp only [Int.toNat_natCast, Nat.add_zero, List.length_singleton]
      rw [hd, List.take_left, split_words b n r (by simp at h; omega), words_app ha]
    · have hi := index_free hb
      simp only [Go.Lib.countFrom]
      rw [hi, if_pos (by decide), words_free hb]
      rfl
theorem split_eq (b : UInt8) (s : List UInt8) : Go.Lib.splitK [b] 0 (Go.Lib.count s [b]) s = words b s := split_words b _ s (Nat.lt_succ_self _)

/-- No sign but its own stands in a term's text. -/
theorem Tk.mem {ns : List Int} {l : List UInt8} (h : Tk ns l) (hb : ∀ x ∈ ns, -100 ≤ x ∧ x ≤ 99) : (32 : UInt8) ∉ l := by
  induction h with
  | nil => simp
  | sign x hx h ih =>
    simp only [List.mem_cons, not_or]
    exact ⟨by rcases hx with rfl | rfl | rfl <;> decide, ih hb⟩
  | @tok ns l n h ih =>
    have hn := hb n List.mem_cons_self
    have hd : ∀ u : Nat, u < 100 → (32 : UInt8) ∉ decDigits u := fun u hu hm => by
      have := dec_dig hu _ hm
      revert this; decide
    rw [List.mem_append, not_or]
    refine ⟨?_, ih fun x hx => hb x (List.mem_cons_of_mem _ hx)⟩
    unfold Pl.tok
    split
    · simp only [List.mem_cons, not_or]; exact ⟨by decide, hd _ (by omega)⟩
    · simp only [List.mem_cons, not_or]; exact ⟨by decide, hd _ (by omega)⟩
theorem txt_free {ar t : List Int} (h : termOk ar t = true) : (32 : UInt8) ∉ txt ar t 0 :=
  (txt_tk h).1.mem fun x hx => by have := termOk_bd h x hx; omega
theorem txt_ne {ar t : List Int} (h : termOk ar t = true) : txt ar t 0 ≠ [] := by
  have hl := (termOk_iff.1 h).2.1
  rw [txt_eq h (by omega)]
  have := termOk_bd h (t.getD 0 0) (getD_mem (by omega))
  have := (tok_len (n := t.getD 0 0) (by omega) (by omega)).2
  intro e
  rw [List.append_eq_nil_iff] at e
  rw [e.1] at this
  simp at this
/-- What a text is read as: a term, at most 400 signs. -/
def readT (ar : List Int) (s : List UInt8) : Option (List Int) := termOf ar s (numsS s.length s [])
theorem readT_iff {ar t : List Int} {s : List UInt8} : readT ar s = some t ↔ termOk ar t = true ∧ txt ar t 0 = s := by
  constructor
  · exact termOf_iff
  · rintro ⟨h, rfl⟩; exact (termOf_text h).1
theorem readT_I (ar : List Int) (s : List UInt8) : termOf ar s (numsI s.length s []) = readT ar s := termOf_same ar s
/-- The two sides that a text names. -/
def sides (ar : List Int) (s : List UInt8) : Option (List Int × List Int) :=
  match words 32 s with
  | [a, m, b] => if m = [45, 62] then match readT ar a, readT ar b with
    | some l, some r => some (l, r)
    | _, _ => none
    else none
  | _ => none
def sidesI (ar : List Int) (s : List UInt8) : Option (List Int × List Int) :=
  if (Go.Lib.cut s [32, 45, 62, 32]).2.2 = true then match readT ar (Go.Lib.cut s [32, 45, 62, 32]).1, readT ar (Go.Lib.cut s [32, 45, 62, 32]).2.1 with
    | some l, some r => some (l, r)
    | _, _ => none
  else none
def arrow : List UInt8 := [32, 45, 62, 32]
theorem sides_iff {ar : List Int} {s : List UInt8} {l r : List Int} : sides ar s = some (l, r) ↔ termOk ar l = true ∧ termOk ar r = true ∧ s = txt ar l 0 ++ arrow ++ txt ar r 0 := by
  constructor
  · intro h
    unfold sides at h
    split at h
    · rename_i a m b hw
      split at h
      · rename_i hm
        split at h
        · rename_i l' r' h1 h2
          simp only [Option.some.injEq, Prod.mk.injEq] at h
          obtain ⟨rfl, rfl⟩ := h
          obtain ⟨h3, h4⟩ := readT_iff.1 h1
          obtain ⟨h5, h6⟩ := readT_iff.1 h2
          refine ⟨h3, h5, ?_⟩
          have := words_join 32 s
          rw [hw, hm, ← h4, ← h6] at this
          rw [← this]
          simp [Go.Lib.join, List.intercalate, arrow]
        · cases h
      · cases h
    · cases h
  · rintro ⟨h1, h2, rfl⟩
    have f1 := txt_free h1
    have f2 := txt_free h2
    unfold sides arrow
    have e : txt ar l 0 ++ [32, 45, 62, 32] ++ txt ar r 0 = txt ar l 0 ++ 32 :: ([45, 62] ++ 32 :: txt ar r 0) := by simp
    rw [e, words_app f1, words_app (by decide), words_free f2]
    simp [(readT_iff (s := txt ar l 0) (t := l)).2 ⟨h1, rfl⟩, (readT_iff (s := txt ar r 0) (t := r)).2 ⟨h2, rfl⟩]
theorem sidesI_iff {ar : List Int} {s : List UInt8} {l r : List Int} : sidesI ar s = some (l, r) ↔ termOk ar l = true ∧ termOk ar r = true ∧ s = txt ar l 0 ++ arrow ++ txt ar r 0 := by
  constructor
  · intro h
    unfold sidesI at h
    split at h
    · rename_i hc
      split at h
      · rename_i l' r' h1 h2
        simp only [Option.some.injEq, Prod.mk.injEq] at h
        obtain ⟨rfl, rfl⟩ := h
        obtain ⟨h3, h4⟩ := readT_iff.1 h1
        obtain ⟨h5, h6⟩ := readT_iff.1 h2
        refine ⟨h3, h5, ?_⟩
        unfold Go.Lib.cut at hc h4 h6
        split at hc
        · rename_i hi
          rw [if_pos hi] at h4 h6
          rw [h4, h6]
          rcases Go.Lib.index_spec s [32, 45, 62, 32] with ⟨k1, _⟩ | ⟨i, k1, k2, k3, _⟩
          · omega
          · rw [k1]
            unfold occAt at k3
            obtain ⟨q, hq⟩ := List.isPrefixOf_iff_prefix.1 k3
            have e1 : s = s.take i ++ s.drop i := (List.take_append_drop i s).symm
            have e2 : s.drop (i + 4) = q := by rw [← List.drop_drop, ← hq]; rfl
            simp only [Int.toNat_natCast, List.length_cons, List.length_nil]
            rw [show 0 + 1 + 1 + 1 + 1 = 4 from rfl, e2]
            unfold arrow
            rw [List.append_assoc, hq]
            exact e1
        · cases hc
      · cases h
    · cases h
  · rintro ⟨h1, h2, rfl⟩
    have f1 := txt_free h1
    have hi : index (txt ar l 0 ++ arrow ++ txt ar r 0) [32, 45, 62, 32] = (txt ar l 0).length := by
      have e : txt ar l 0 ++ arrow ++ txt ar r 0 = txt ar l 0 ++ 32 :: ([45, 62, 32] ++ txt ar r 0) := by simp [arrow]
      rw [e]
      exact index_app f1 _ (by simp) ⟨_, rfl⟩
    have hc : Go.Lib.cut (txt ar l 0 ++ arrow ++ txt ar r 0) [32, 45, 62, 32] = (txt ar l 0, txt ar r 0, true) := by
      unfold Go.Lib.cut
      rw [hi, if_pos (by omega)]
      simp only [Int.toNat_natCast]
      congr 1
      · rw [List.append_assoc, List.take_left]
      · congr 1
        rw [← List.drop_drop, List.append_assoc, List.drop_left]
        rfl
    unfold sidesI
    rw [hc]
    simp [(readT_iff (s := txt ar l 0) (t := l)).2 ⟨h1, rfl⟩, (readT_iff (s := txt ar r 0) (t := r)).2 ⟨h2, rfl⟩]
theorem sides_same (ar : List Int) (s : List UInt8) : sidesI ar s = sides ar s := by
  cases h1 : sidesI ar s with
  | some p => obtain ⟨l, r⟩ := p; rw [sides_iff.2 (sidesI_iff.1 h1)]
  | none =>
    cases h2 : sides ar s with
    | none => rfl
    | some p => obtain ⟨l, r⟩ := p; rw [sidesI_iff.2 (sides_iff.1 h2)] at h1; cases h1
/-- Words read as numbers, up to the first that is none. -/
def numsW : List (List UInt8) → Option (List Int)
  | [] => some []
  | a :: r => match readN a with
    | none => none
    | some n => (numsW r).map (n :: ·)
theorem foldl_ge (l : List UInt8) (h : l.all isDig = true) : ∀ (n : Int), 0 ≤ n → n ≤ l.foldl (fun n x => 10 * n + ((x.toNat : Int) - 48)) n := by
  induction l with
  | nil => intro n _; exact Int.le_refl _
  | cons x l ih =>
    intro n hn
    simp only [List.all_cons, Bool.and_eq_true] at h
    have hx : 48 ≤ x.toNat ∧ x.toNat ≤ 57 := by simpa [isDig] using h.1
    have := ih h.2 (10 * n + ((x.toNat : Int) - 48)) (by omega)
    simp only [List.foldl_cons]
    omega
theorem readN_ge {l : List UInt8} {n : Int} (h : readN l = some n) : 0 ≤ n := by
  unfold readN at h
  split at h
  · cases h
  · split at h
    · rename_i ha
      injection h with h
      have := foldl_ge l ha 0 (by omega)
      omega
    · cases h
theorem readN_small {l : List UInt8} {n : Int} (h : readN l = some n) (hn : n < 10) : l = decDigits n.toNat := by
  have h0 := readN_ge h
  unfold readN at h
  split at h
  · cases h
  · rename_i hc
    split at h
    · rename_i ha
      injection h with h
      cases l with
      | nil => simp at hc
      | cons x l =>
        simp only [List.all_cons, Bool.and_eq_true] at ha
        have hx : 48 ≤ x.toNat ∧ x.toNat ≤ 57 := by simpa [isDig] using ha.1
        cases l with
        | nil =>
          simp only [List.foldl_cons, List.foldl_nil] at h
          rw [decDigits_one (by omega)]
          congr 1
          apply UInt8.toNat_inj.1
          rw [UInt8.toNat_ofNat']
          omega
        | cons y l =>
          have hx48 : x ≠ 48 := fun e => hc (Or.inr (Or.inr ⟨by simp [e], by simp⟩))
          have hx1 : x.toNat ≠ 48 := fun e => hx48 (UInt8.toNat_inj.1 e)
          have hy := ha.2
          simp only [List.all_cons, Bool.and_eq_true] at hy
          have hy1 : 48 ≤ y.toNat ∧ y.toNat ≤ 57 := by simpa [isDig] using hy.1
          simp only [List.foldl_cons] at h
          have := foldl_ge l hy.2 (10 * (10 * 0 + ((x.toNat : Int) - 48)) + ((y.toNat : Int) - 48)) (by omega)
          omega
    · cases h
/-- The text of a signature, and what a text is read as. -/
def sigTxt (xs : List Int) : List UInt8 := Go.Lib.join (xs.map fun n => decDigits n.toNat) [32]
theorem numsW_small : ∀ {W : List (List UInt8)} {xs : List Int}, numsW W = some xs → (∀ x ∈ xs, x < 10) → W = xs.map fun n => decDigits n.toNat
  | [], xs, h, _ => by simp [numsW] at h; subst h; rfl
  | a :: r, xs, h, hb => by
    simp only [numsW] at h
    split at h
    · cases h
    · rename_i n hn
      simp only [Option.map_eq_some_iff] at h
      obtain ⟨ys, hy, rfl⟩ := h
      rw [List.map_cons, ← readN_small hn (hb n List.mem_cons_self), ← numsW_small hy fun x hx => hb x (List.mem_cons_of_mem _ hx)]
def readS (s : List UInt8) : Option (List Int) :=
  match numsW (words 32 s) with
  | none => none
  | some xs => if sigOk xs = true then some xs else none
theorem readS_txt {s : List UInt8} {xs : List Int} (h : readS s = some xs) : sigOk xs = true ∧ sigTxt xs = s := by
  unfold readS at h
  split at h
  · cases h
  · rename_i ys hy
    split at h
    · rename_i hs
      injection h with h
      subst h
      refine ⟨hs, ?_⟩
      unfold sigTxt
      rw [← numsW_small hy fun x hx => by have := (sigOk_iff.1 hs).2 x hx; omega]
      exact words_join 32 s
    · cases h
end Go.Proofs.YtlcchafcgidpeaaGreatDoor.Pl
