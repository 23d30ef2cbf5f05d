/- Plain: the text of a term; what two readers find in it. No program in sight. -/
import Derived.Test.YtlcchafcgidpeaaDoorPlainB
import Derived.Lib.ItoaNum
namespace Go.Proofs.YtlcchafcgidpeaaDoor.Pl
open Go.Lib (decDigits decDigits_one decDigits_two)
set_option linter.unusedVariables false

def isDig (x : UInt8) : Bool := decide (48 ≤ x.toNat ∧ x.toNat ≤ 57)
/-- A symbol's or a variable's own sign and number. -/
def tok (n : Int) : List UInt8 := if n < 0 then 120 :: decDigits (-1 - n).toNat else 102 :: decDigits n.toNat
/-- The arguments' texts, the last bracket left out. -/
def part (g : Nat → List UInt8) : List Nat → List UInt8
  | [] => []
  | q :: qs => 40 :: (g q ++ qs.flatMap fun q => 44 :: g q)
def brack (g : Nat → List UInt8) (L : List Nat) : List UInt8 := part g L ++ if L.length = 0 then [] else [41]
def textF (f : Int → Int) (t : List Int) : Nat → Nat → List UInt8
  | 0, _ => []
  | k + 1, p => tok (t.getD p 0) ++ brack (textF f t k) (args f t p)
/-- The text of what begins at a place. -/
def txt (ar t : List Int) (p : Nat) : List UInt8 := textF (ari ar) t t.length p

theorem part_zero (g : Nat → List UInt8) (L : List Nat) : part g (L.take 0) = [] := rfl
theorem part_step (g : Nat → List UInt8) {L : List Nat} {j : Nat} (hj : j < L.length) : part g (L.take (j + 1)) = part g (L.take j) ++ ((if j = 0 then 40 else 44) :: g (L.getD j 0)) := by
  cases L with
  | nil => simp at hj
  | cons q qs =>
    cases j with
    | zero => simp [part]
    | succ j =>
      have hj' : j < qs.length := by simpa using hj
      simp only [List.take_succ_cons, part]
      rw [List.take_succ_eq_append_getElem hj', List.flatMap_append]
      simp [List.getD_eq_getElem?_getD, hj']
theorem part_congr {g g' : Nat → List UInt8} : ∀ {L : List Nat}, (∀ q ∈ L, g q = g' q) → part g L = part g' L
  | [], _ => rfl
  | q :: qs, h => by
    have : (qs.flatMap fun q => 44 :: g q) = qs.flatMap fun q => 44 :: g' q := by
      rw [List.flatMap_def, List.flatMap_def]
      congr 1
      exact List.map_congr_left fun x hx => by rw [h x (List.mem_cons_of_mem _ hx)]
    simp only [part]
    rw [h q List.mem_cons_self, this]
theorem brack_congr {g g' : Nat → List UInt8} {L : List Nat} (h : ∀ q ∈ L, g q = g' q) : brack g L = brack g' L := by unfold brack; rw [part_congr h]
theorem textF_fuel {f : Int → Int} {t : List Int} (h : run f 1 t = some t.length) : ∀ (k k' p : Nat), p < t.length → t.length - p ≤ k → t.length - p ≤ k' → textF f t k p = textF f t k' p
  | 0, _, p, hp, h1, _ => by omega
  | _ + 1, 0, p, hp, _, h2 => by omega
  | k + 1, k' + 1, p, hp, h1, h2 => by
    simp only [textF]
    congr 1
    apply brack_congr
    intro q hq
    have := args_mem h hp q hq
    exact textF_fuel h k k' q this.2.2.1 (by omega) (by omega)
theorem txt_eq {ar t : List Int} (h : termOk ar t = true) {p : Nat} (hp : p < t.length) : txt ar t p = tok (t.getD p 0) ++ brack (txt ar t) (args (ari ar) t p) := by
  have hr := (termOk_iff.1 h).2.2
  obtain ⟨k, hk⟩ : ∃ k, t.length = k + 1 := ⟨t.length - 1, by omega⟩
  unfold txt
  rw [show textF (ari ar) t t.length p = textF (ari ar) t (k + 1) p from by rw [hk]]
  simp only [textF]
  congr 1
  apply brack_congr
  intro q hq
  have := args_mem hr hp q hq
  exact textF_fuel hr k t.length q this.2.2.1 (by omega) (by omega)

/-- A text of numbers, each with its sign, and other signs between them. -/
inductive Tk : List Int → List UInt8 → Prop
  | nil : Tk [] []
  | sign {ns : List Int} {l : List UInt8} (x : UInt8) (hx : x = 40 ∨ x = 44 ∨ x = 41) (h : Tk ns l) : Tk ns (x :: l)
  | tok {ns : List Int} {l : List UInt8} (n : Int) (h : Tk ns l) : Tk (n :: ns) (tok n ++ l)
theorem Tk.app {a : List Int} {l : List UInt8} (h : Tk a l) : ∀ {b : List Int} {m : List UInt8}, Tk b m → Tk (a ++ b) (l ++ m) := by
  induction h with
  | nil => intro b m h; simpa using h
  | sign x hx h ih => intro b m k; exact Tk.sign x hx (ih k)
  | tok n h ih => intro b m k; rw [List.append_assoc]; exact Tk.tok n (ih k)
theorem tok_len {n : Int} (h1 : -100 ≤ n) (h2 : n ≤ 99) : (tok n).length ≤ 3 ∧ 2 ≤ (tok n).length := by
  have key : ∀ u : Nat, u < 100 → (decDigits u).length ≤ 2 ∧ 1 ≤ (decDigits u).length := by
    intro u hu
    by_cases h : u < 10
    · rw [decDigits_one h]; simp
    · rw [decDigits_two h hu]; simp
  unfold tok
  split
  · have := key (-1 - n).toNat (by omega); simp only [List.length_cons]; omega
  · have := key n.toNat (by omega); simp only [List.length_cons]; omega

/-- What a term's text is made of, and its length. -/
theorem textF_tk {f : Int → Int} {t : List Int} (h : run f 1 t = some t.length) (hb : ∀ x ∈ t, -100 ≤ x ∧ x ≤ 99) : ∀ (k p : Nat), p < t.length → t.length - p ≤ k →
    Tk ((t.drop p).take (fin f t p - p)) (textF f t k p) ∧ (textF f t k p).length + 1 ≤ 5 * (fin f t p - p)
  | 0, p, hp, hk => by omega
  | k + 1, p, hp, hk => by
    have ih : ∀ q, p < q → q < t.length → Tk ((t.drop q).take (fin f t q - q)) (textF f t k q) ∧ (textF f t k q).length + 1 ≤ 5 * (fin f t q - q) := fun q h1 h2 => textF_tk h hb k q h2 (by omega)
    obtain ⟨j, hj, hjl, hj1⟩ := run_at h hp
    have hfin : fin f t p = p + j := by unfold fin; rw [hj]; rfl
    rw [hfin, show p + j - p = j by omega]
    have hd : t.drop p = t.getD p 0 :: t.drop (p + 1) := by
      rw [List.drop_eq_getElem_cons hp]; simp [List.getD_eq_getElem?_getD, hp]
    have hx := hb (t.getD p 0) (getD_mem hp)
    obtain ⟨i, rfl⟩ : ∃ i, j = i + 1 := ⟨j - 1, by omega⟩
    have hi : run f (f (t.getD p 0)).toNat (t.drop (p + 1)) = some i := by
      rw [hd] at hj
      simp only [run] at hj
      split at hj
      · cases hj
      · simp only [Option.map_eq_some_iff, Nat.zero_add] at hj
        obtain ⟨i', h1, h2⟩ := hj
        rw [h1]; congr 1; omega
    -- the arguments, each with a comma ahead
    have tail : ∀ (c q i : Nat), p < q → run f c (t.drop q) = some i → q + i ≤ t.length → Tk ((t.drop q).take i) ((argsFrom f t c q).flatMap fun q => 44 :: textF f t k q) ∧ ((argsFrom f t c q).flatMap fun q => 44 :: textF f t k q).length ≤ 5 * i := by
      intro c
      induction c with
      | zero =>
        intro q i hq hc _
        rw [run_zero] at hc
        cases hc
        simpa [argsFrom] using Tk.nil
      | succ c ihc =>
        intro q i hq hc hl
        rw [show c + 1 = 1 + c by omega, run_add] at hc
        cases h1 : run f 1 (t.drop q) with
        | none => rw [h1] at hc; cases hc
        | some a =>
          rw [h1] at hc
          simp only [Option.bind_some, Option.map_eq_some_iff, List.drop_drop] at hc
          obtain ⟨b, h2, rfl⟩ := hc
          have hfq : fin f t q = q + a := by unfold fin; rw [h1]; rfl
          have ha := (run_le h1)
          rw [List.length_drop] at ha
          have iq := ih q hq (by omega)
          rw [hfq, show q + a - q = a by omega] at iq
          have ib := ihc (q + a) b (by omega) h2 (by omega)
          have e : argsFrom f t (c + 1) q = q :: argsFrom f t c (q + a) := by simp only [argsFrom]; rw [hfq]
          rw [e, List.flatMap_cons]
          constructor
          · rw [List.take_add, List.drop_drop]
            exact (Tk.sign 44 (Or.inr (Or.inl rfl)) iq.1).app ib.1
          · rw [List.length_append, List.length_cons]; omega
    simp only [textF, args]
    have hc0 : ∀ c : Nat, c = (f (t.getD p 0)).toNat → Tk ((t.drop (p + 1)).take i) (brack (textF f t k) (argsFrom f t c (p + 1))) ∧ (brack (textF f t k) (argsFrom f t c (p + 1))).length ≤ 5 * i + 1 := by
      rintro c hc
      rw [← hc] at hi
      cases c with
      | zero =>
        rw [run_zero] at hi
        cases hi
        simpa [argsFrom, brack, part] using Tk.nil
      | succ c =>
        have hj2 := hjl
        rw [show c + 1 = 1 + c by omega, run_add] at hi
        cases h1 : run f 1 (t.drop (p + 1)) with
        | none => rw [h1] at hi; cases hi
        | some a =>
          rw [h1] at hi
          simp only [Option.bind_some, Option.map_eq_some_iff, List.drop_drop] at hi
          obtain ⟨b, h2, rfl⟩ := hi
          have hfq : fin f t (p + 1) = p + 1 + a := by unfold fin; rw [h1]; rfl
          have ha := (run_le h1)
          rw [List.length_drop] at ha
          have iq := ih (p + 1) (by omega) (by omega)
          rw [hfq, show p + 1 + a - (p + 1) = a by omega] at iq
          have ib := tail c (p + 1 + a) b (by omega) h2 (by omega)
          have e : argsFrom f t (c + 1) (p + 1) = (p + 1) :: argsFrom f t c (p + 1 + a) := by simp only [argsFrom]; rw [hfq]
          rw [e]
          unfold brack part
          rw [if_neg (by simp)]
          constructor
          · rw [List.take_add, List.drop_drop]
            have t1 := ((Tk.sign 40 (Or.inl rfl) iq.1).app ib.1).app (Tk.sign 41 (Or.inr (Or.inr rfl)) Tk.nil)
            simpa using t1
          · simp only [List.length_append, List.length_cons, List.length_nil]; omega
    have hcc := hc0 _ rfl
    have htl := tok_len hx.1 hx.2
    constructor
    · rw [hd, List.take_succ_cons]
      exact Tk.tok _ hcc.1
    · rw [List.length_append]; omega
theorem txt_tk {ar t : List Int} (h : termOk ar t = true) : Tk t (txt ar t 0) ∧ (txt ar t 0).length ≤ 299 := by
  obtain ⟨h1, h2, h3⟩ := termOk_iff.1 h
  have hb : ∀ x ∈ t, -100 ≤ x ∧ x ≤ 99 := fun x hx => by have := termOk_bd h x hx; omega
  have := textF_tk h3 hb t.length 0 (by omega) (by omega)
  have hf : fin (ari ar) t 0 = t.length := by unfold fin; rw [List.drop_zero, h3]; simp
  rw [hf, Nat.sub_zero, List.drop_zero, List.take_length] at this
  exact ⟨this.1, by unfold txt; omega⟩
theorem txt_len {ar t : List Int} (h : termOk ar t = true) {p : Nat} (hp : p < t.length) : (txt ar t p).length ≤ 299 := by
  obtain ⟨h1, h2, h3⟩ := termOk_iff.1 h
  have hb : ∀ x ∈ t, -100 ≤ x ∧ x ≤ 99 := fun x hx => by have := termOk_bd h x hx; omega
  have := (textF_tk h3 hb t.length p hp (by omega)).2
  have hf := (fin_of h3 hp)
  have hl : fin (ari ar) t p ≤ t.length := by
    obtain ⟨j, hj, hjl, hj1⟩ := run_at h3 hp
    unfold fin; rw [hj]; exact hjl
  unfold txt; omega

/-- A number in decimal: one to nine digits, no zero ahead. -/
def readN (l : List UInt8) : Option Int :=
  if l.length < 1 ∨ 9 < l.length ∨ (l.head? = some 48 ∧ 1 < l.length) then none
  else if l.all isDig then some (l.foldl (fun n x => 10 * n + ((x.toNat : Int) - 48)) 0) else none
theorem readN_dec {u : Nat} (h : u < 100) : readN (decDigits u) = some (u : Int) := by
  by_cases h1 : u < 10
  · rw [decDigits_one h1]
    have : ∀ i : Fin 10, readN [UInt8.ofNat (48 + i.val)] = some (i.val : Int) := by decide +kernel
    exact this ⟨u, h1⟩
  · rw [decDigits_two h1 h]
    have : ∀ i : Fin 100, 10 ≤ i.val → readN [UInt8.ofNat (48 + i.val / 10), UInt8.ofNat (48 + i.val % 10)] = some (i.val : Int) := by decide +kernel
    exact this ⟨u, h⟩ (by show 10 ≤ u; omega)
theorem dec_dig {u : Nat} (h : u < 100) : ∀ x ∈ decDigits u, isDig x = true := by
  by_cases h1 : u < 10
  · rw [decDigits_one h1]
    have : ∀ i : Fin 10, isDig (UInt8.ofNat (48 + i.val)) = true := by decide +kernel
    intro x hx
    rw [List.mem_singleton] at hx
    subst hx
    exact this ⟨u, h1⟩
  · rw [decDigits_two h1 h]
    have k1 : ∀ i : Fin 100, isDig (UInt8.ofNat (48 + i.val / 10)) = true ∧ isDig (UInt8.ofNat (48 + i.val % 10)) = true := by decide +kernel
    intro x hx
    simp only [List.mem_cons, List.not_mem_nil, or_false] at hx
    rcases hx with rfl | rfl
    · exact (k1 ⟨u, h⟩).1
    · exact (k1 ⟨u, h⟩).2

/-- What the reference reads: the numbers behind each x and f, at most sixty. -/
def numsS : Nat → List UInt8 → List Int → Option (List Int)
  | 0, _, acc => some acc
  | _ + 1, [], acc => some acc
  | k + 1, x :: l, acc =>
    if x ≠ 120 ∧ x ≠ 102 then numsS k l acc
    else match readN (l.takeWhile isDig) with
      | none => none
      | some n => if 60 ≤ acc.length then none else numsS k (l.dropWhile isDig) (acc ++ [if x = 120 then -1 - n else n])
/-- What the program reads: it takes no sign but brackets and commas besides. -/
def numsI : Nat → List UInt8 → List Int → Option (List Int)
  | 0, _, acc => some acc
  | _ + 1, [], acc => some acc
  | k + 1, x :: l, acc =>
    if x = 40 ∨ x = 44 ∨ x = 41 then numsI k l acc
    else match readN (l.takeWhile isDig) with
      | none => none
      | some n => if x ≠ 120 ∧ x ≠ 102 then none else numsI k (l.dropWhile isDig) (acc ++ [if x = 120 then -1 - n else n])
theorem Tk.head {ns : List Int} {l : List UInt8} (h : Tk ns l) : ∀ x, l.head? = some x → isDig x = false := by
  intro x hx
  cases h with
  | nil => simp at hx
  | sign y hy h => simp at hx; subst hx; rcases hy with rfl | rfl | rfl <;> decide
  | tok n h =>
    unfold Pl.tok at hx
    split at hx
    · simp at hx; subst hx; decide
    · simp at hx; subst hx; decide
theorem while_app {a l : List UInt8} (ha : ∀ x ∈ a, isDig x = true) (hl : ∀ x, l.head? = some x → isDig x = false) : (a ++ l).takeWhile isDig = a ∧ (a ++ l).dropWhile isDig = l := by
  induction a with
  | nil =>
    cases l with
    | nil => simp
    | cons x l => have := hl x rfl; simp [this]
  | cons y a ih =>
    have h1 := ha y List.mem_cons_self
    have h2 := ih fun x hx => ha x (List.mem_cons_of_mem _ hx)
    simp [h1, h2.1, h2.2]
theorem numsS_tk {ns : List Int} {l : List UInt8} (h : Tk ns l) : ∀ (k : Nat) (acc : List Int), l.length ≤ k → (∀ x ∈ ns, -100 ≤ x ∧ x ≤ 99) → acc.length + ns.length ≤ 60 → numsS k l acc = some (acc ++ ns) := by
  induction h with
  | nil => intro k acc _ _ _; cases k <;> simp [numsS]
  | sign x hx h ih =>
    intro k acc hk hb ha
    cases k with
    | zero => simp at hk
    | succ k =>
      simp only [numsS]
      rw [if_pos (by rcases hx with rfl | rfl | rfl <;> decide)]
      exact ih k acc (by simpa using hk) hb ha
  | @tok ns l n h ih =>
    intro k acc hk hb ha
    have hn := hb n List.mem_cons_self
    have hns := fun x hx => hb x (List.mem_cons_of_mem _ hx)
    simp only [List.length_cons] at ha
    have htl := tok_len hn.1 hn.2
    rw [List.length_append] at hk
    by_cases h0 : n < 0
    · have e : tok n = 120 :: decDigits (-1 - n).toNat := by unfold tok; rw [if_pos h0]
      have hu : (-1 - n).toNat < 100 := by omega
      obtain ⟨w1, w2⟩ := while_app (dec_dig hu) h.head
      rw [e]
      cases k with
      | zero => omega
      | succ k =>
        simp only [List.cons_append, numsS]
        rw [if_neg (by decide), w1, readN_dec hu, w2]
        simp only
        rw [if_neg (by omega), if_pos trivial, show -1 - (((-1 - n).toNat : Nat) : Int) = n by omega, ih k _ (by omega) hns (by simp; omega), List.append_assoc]
        rfl
    · have e : tok n = 102 :: decDigits n.toNat := by unfold tok; rw [if_neg h0]
      have hu : n.toNat < 100 := by omega
      obtain ⟨w1, w2⟩ := while_app (dec_dig hu) h.head
      rw [e]
      cases k with
      | zero => omega
      | succ k =>
        simp only [List.cons_append, numsS]
        rw [if_neg (by decide), w1, readN_dec hu, w2]
        simp only
        rw [if_neg (by omega), if_neg (by decide), show ((n.toNat : Nat) : Int) = n by omega, ih k _ (by omega) hns (by simp; omega), List.append_assoc]
        rfl
theorem numsI_tk {ns : List Int} {l : List UInt8} (h : Tk ns l) : ∀ (k : Nat) (acc : List Int), l.length ≤ k → (∀ x ∈ ns, -100 ≤ x ∧ x ≤ 99) → numsI k l acc = some (acc ++ ns) := by
  induction h with
  | nil => intro k acc _ _; cases k <;> simp [numsI]
  | sign x hx h ih =>
    intro k acc hk hb
    cases k with
    | zero => simp at hk
    | succ k =>
      simp only [numsI]
      rw [if_pos hx]
      exact ih k acc (by simpa using hk) hb
  | @tok ns l n h ih =>
    intro k acc hk hb
    have hn := hb n List.mem_cons_self
    have hns := fun x hx => hb x (List.mem_cons_of_mem _ hx)
    have htl := tok_len hn.1 hn.2
    rw [List.length_append] at hk
    by_cases h0 : n < 0
    · have e : tok n = 120 :: decDigits (-1 - n).toNat := by unfold tok; rw [if_pos h0]
      have hu : (-1 - n).toNat < 100 := by omega
      obtain ⟨w1, w2⟩ := while_app (dec_dig hu) h.head
      rw [e]
      cases k with
      | zero => omega
      | succ k =>
        simp only [List.cons_append, numsI]
        rw [if_neg (by decide), w1, readN_dec hu, w2]
        simp only
        rw [if_neg (by decide), if_pos trivial, show -1 - (((-1 - n).toNat : Nat) : Int) = n by omega, ih k _ (by omega) hns, List.append_assoc]
        rfl
    · have e : tok n = 102 :: decDigits n.toNat := by unfold tok; rw [if_neg h0]
      have hu : n.toNat < 100 := by omega
      obtain ⟨w1, w2⟩ := while_app (dec_dig hu) h.head
      rw [e]
      cases k with
      | zero => omega
      | succ k =>
        simp only [List.cons_append, numsI]
        rw [if_neg (by decide), w1, readN_dec hu, w2]
        simp only
        rw [if_neg (by decide), if_neg (by decide), show ((n.toNat : Nat) : Int) = n by omega, ih k _ (by omega) hns, List.append_assoc]
        rfl
/-- What a text is read as: the one term that has this text. -/
def termOf (ar : List Int) (s : List UInt8) (r : Option (List Int)) : Option (List Int) :=
  match r with
  | none => none
  | some t => if termOk ar t = true ∧ txt ar t 0 = s then some t else none
theorem termOf_text {ar t : List Int} (h : termOk ar t = true) : termOf ar (txt ar t 0) (numsS (txt ar t 0).length (txt ar t 0) []) = some t ∧ termOf ar (txt ar t 0) (numsI (txt ar t 0).length (txt ar t 0) []) = some t := by
  have hb : ∀ x ∈ t, -100 ≤ x ∧ x ≤ 99 := fun x hx => by have := termOk_bd h x hx; omega
  have hl := (termOk_iff.1 h).2.1
  have hk := (txt_tk h).1
  rw [numsS_tk hk _ [] (Nat.le_refl _) hb (by simpa using hl.2), numsI_tk hk _ [] (Nat.le_refl _) hb]
  simp [termOf, h]
theorem termOf_iff {ar : List Int} {s : List UInt8} {r : Option (List Int)} {t : List Int} (h : termOf ar s r = some t) : termOk ar t = true ∧ txt ar t 0 = s := by
  unfold termOf at h
  split at h
  · cases h
  · split at h
    · rename_i hh
      injection h with h
      subst h
      exact hh
    · cases h
/-- The two readers agree. -/
theorem termOf_same (ar : List Int) (s : List UInt8) : termOf ar s (numsI s.length s []) = termOf ar s (numsS s.length s []) := by
  cases h1 : termOf ar s (numsI s.length s []) with
  | some t =>
    obtain ⟨ht, rfl⟩ := termOf_iff h1
    rw [(termOf_text ht).1]
  | none =>
    cases h2 : termOf ar s (numsS s.length s []) with
    | none => rfl
    | some t =>
      obtain ⟨ht, rfl⟩ := termOf_iff h2
      rw [(termOf_text ht).2] at h1
      cases h1
end Go.Proofs.YtlcchafcgidpeaaDoor.Pl
