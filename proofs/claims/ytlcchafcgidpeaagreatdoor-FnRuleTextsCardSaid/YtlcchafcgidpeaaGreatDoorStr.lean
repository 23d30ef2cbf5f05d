/- Contracts: numbers as texts, texts as numbers. -/
import Derived.Test.YtlcchafcgidpeaaGreatDoorTxtB
import Derived.Test.YtlcchafcgidpeaaGreatDoorBase
import Derived.Test.YtlcchafcgidpeaaGreatDoorApp
import Derived.Deep.LoopGhost
import Derived.Laws.IdiomStrings
import Derived.Laws.DeepStrings4
namespace Go.Proofs.YtlcchafcgidpeaaGreatDoor
open Go.RowKit
open Go.Lib (decDigits)
set_option linter.unusedVariables false
set_option linter.unusedSimpArgs false

theorem conv1 (W : World) (x : Int) (h0 : 0 ≤ x) (h1 : x ≤ 255) : (convert 22 9 (.slice (some ⟨W.heap.size, 0, none⟩) 1 1)).run Tryz.prog (W.alloc (.cells #[.int .u8 x] 5)) = .ok (.string ⟨#[UInt8.ofNat x.toNat]⟩) (W.alloc (.cells #[.int .u8 x] 5)) := by
  have := run_convert_bytes_back (P := Tryz.prog) (W.alloc (.cells #[.int .u8 x] 5)) 22 9 5 ⟨W.heap.size, 0, none⟩ 1 [UInt8.ofNat x.toNat] Tryz.underlying22 Tryz.underlying5 Tryz.underlying9 (fun j hj => by
    obtain rfl : j = 0 := by simpa using hj
    have e := (Blk.new W 5 #[.int .u8 x]).cell 0
    rw [show (⟨W.heap.size, 0, none⟩ : Addr).add 0 = ⟨W.heap.size, 0, none⟩ from rfl, e]
    simp
    omega)
  simpa using this
def digR (l : List UInt8) (r : Nat) : List UInt8 := if l = [] ∨ r ≠ 0 then decDigits r else []
theorem digR_step {l : List UInt8} {r : Nat} (h : l = [] ∨ r ≠ 0) : digR l r = digR (UInt8.ofNat (48 + r % 10) :: l) (r / 10) ++ [UInt8.ofNat (48 + r % 10)] := by
  unfold digR
  rw [if_pos h]
  by_cases h1 : r < 10
  · have e : r / 10 = 0 := by omega
    rw [Go.Lib.decDigits, dif_pos h1, e, if_neg (by simp), List.nil_append, Nat.mod_eq_of_lt h1]
  · rw [Go.Lib.decDigits, dif_neg h1, if_pos (Or.inr (by omega))]
set_option maxHeartbeats 2000000 in
set_option maxRecDepth 20000 in
theorem l1Int_any (u : Nat) (hu : u < 100) (w : World) :
    Calls Tryz.prog 42 #[.int .i64 u] w fun e w' => e = .returned (.string ⟨(decDigits u).toArray⟩) ∧ Below w.heap.size w w' := by
  go_enter Tryz.func42, Tryz.ntmps42
  go_wp2_with fail
  go_loopg [0, 3, 5] (u + 1) (fun g a b _ wr => ∃ (r : Nat) (l : List UInt8), a = .int .i64 r ∧ b = .string ⟨l.toArray⟩ ∧ r ≤ 99 ∧ l.length ≤ 100 ∧ Hid (l.length = 0 ∨ (l.length = 1 ∧ r ≤ 9) ∨ (l.length = 2 ∧ r = 0)) ∧ Hid (g = r + if l = [] then 1 else 0) ∧ Hid (decDigits u = digR l r ++ l) ∧ Below w.heap.size w wr)
  case atStart => exact ⟨u, [], rfl, rfl, by omega, by simp, Lib.hid (Or.inl rfl), Lib.hid (by simp), Lib.hid (by simp [digR]), Below.refl _ _⟩
  case round =>
    obtain ⟨r, l, rfl, rfl, hr, hl, HL, HG, HD, hb⟩ := hrel
    have h48 : (48 + (r : Int) % 10).toNat = 48 + r % 10 := by omega
    have hcv1 : ∀ W : World, (convert 22 9 (.slice (some ⟨W.heap.size, 0, none⟩) 1 1)).run Tryz.prog (W.alloc (.cells #[.int .u8 (48 + (r : Int) % 10)] 5)) = .ok (.string ⟨#[UInt8.ofNat (48 + r % 10)]⟩) (W.alloc (.cells #[.int .u8 (48 + (r : Int) % 10)] 5)) := fun W => by
      rw [conv1 W _ (by omega) (by omega), h48]
    have hb2 := hb.alloc hb.size (.cells #[.int .u8 (48 + (r : Int) % 10)] 5)
    have HS := Lib.hid fun h => digR_step (l := l) (r := r) h
    clear h48
    generalize UInt8.ofNat (48 + r % 10) = y at *
    cases l with
    | nil =>
      go_wp2_with fail
      go_roundg (r / 10)
      case measure => rw [HG.out]; simp; omega
      case rel => exact ⟨r / 10, [y], by go_num, by rw [show (⟨#[]⟩ : ByteArray) = ⟨([] : List UInt8).toArray⟩ from rfl, show (⟨#[y]⟩ : ByteArray) = ⟨[y].toArray⟩ from rfl, ByteArray.mk_append_mk]; rfl, by omega, by simp, Lib.hid (Or.inr (Or.inl ⟨rfl, by omega⟩)), Lib.hid (by simp), Lib.hid (by rw [HD.out, HS.out (Or.inl trivial)]; simp), hb2⟩
    | cons x l =>
      have hl' : l.length ≤ 99 := by simp at hl; omega
      clear hl
      by_cases h0 : r = 0
      · subst h0
        go_wp2_with fail
        go_ret
        exact ⟨by rw [HD.out]; simp [digR], hb⟩
      · have h1 : ((r : Int) != 0) = true := by simp; omega
        go_wp2_with fail
        go_roundg (r / 10)
        case measure => rw [HG.out]; simp; omega
        case rel => exact ⟨r / 10, y :: x :: l, by go_num, by rw [show (⟨#[y]⟩ : ByteArray) = ⟨[y].toArray⟩ from rfl, ByteArray.mk_append_mk]; rfl, by omega, by have := HL.out; simp only [List.length_cons] at this ⊢; omega, Lib.hid (by have := HL.out; simp only [List.length_cons] at this ⊢; omega), Lib.hid (by simp), Lib.hid (by rw [HD.out, HS.out (Or.inr h0)]; simp), hb2⟩
def rdV (l : List UInt8) : Int := (Pl.readN l).getD 0
def rdB (l : List UInt8) : Bool := (Pl.readN l).isSome
def rdA (l : List UInt8) (k : Nat) : Int := (l.take k).foldl (fun n x => 10 * n + ((x.toNat : Int) - 48)) 0
theorem rdA_step {l : List UInt8} {k : Nat} {x : UInt8} (h : l[k]? = some x) : rdA l (k + 1) = 10 * rdA l k + ((x.toNat : Int) - 48) ∧ ((l.take (k + 1)).all Pl.isDig = ((l.take k).all Pl.isDig && Pl.isDig x)) := by
  have hk : k < l.length := (List.getElem?_eq_some_iff.1 h).1
  have hx : l[k] = x := (List.getElem?_eq_some_iff.1 h).2
  unfold rdA
  rw [List.take_succ_eq_append_getElem hk, List.foldl_append, List.all_append, hx]
  simp
theorem rdA_bd {l : List UInt8} : ∀ (k : Nat), k ≤ 9 → (l.take k).all Pl.isDig = true → 0 ≤ rdA l k ∧ rdA l k ≤ 10 ^ k - 1
  | 0, _, _ => by simp [rdA]
  | k + 1, hk, h => by
    by_cases hl : k < l.length
    · have hx : l[k]? = some l[k] := List.getElem?_eq_getElem hl
      obtain ⟨e1, e2⟩ := rdA_step hx
      rw [e2, Bool.and_eq_true] at h
      have ih := rdA_bd k (by omega) h.1
      have hd : 48 ≤ (l[k]).toNat ∧ (l[k]).toNat ≤ 57 := by simpa [Pl.isDig] using h.2
      rw [e1, Int.pow_succ]
      omega
    · have e : l.take (k + 1) = l.take k := by rw [List.take_of_length_le (by omega), List.take_of_length_le (by omega)]
      rw [e] at h
      have ih := rdA_bd k (by omega) h
      have e2 : rdA l (k + 1) = rdA l k := by unfold rdA; rw [e]
      rw [e2, Int.pow_succ]
      omega
theorem rdA_bd9 {l : List UInt8} {k : Nat} (hk : k ≤ 9) (h : (l.take k).all Pl.isDig = true) : 0 ≤ rdA l k ∧ rdA l k ≤ 999999999 := by
  have h1 := rdA_bd k hk h
  have h2 : (10 : Int) ^ k ≤ 10 ^ 9 := by
    have : ∀ j : Fin 10, (10 : Int) ^ j.val ≤ 10 ^ 9 := by decide +kernel
    exact this ⟨k, by omega⟩
  omega
theorem rd_no {l : List UInt8} (h : l.length < 1 ∨ 9 < l.length ∨ (l.head? = some 48 ∧ 1 < l.length)) : rdV l = 0 ∧ rdB l = false := by
  unfold rdV rdB Pl.readN
  rw [if_pos h]
  exact ⟨rfl, rfl⟩
theorem rd_bad {l : List UInt8} (h : l.all Pl.isDig = false) : rdV l = 0 ∧ rdB l = false := by
  unfold rdV rdB Pl.readN
  rw [h]
  split <;> exact ⟨rfl, rfl⟩
theorem rd_yes {l : List UInt8} (h : ¬ (l.length < 1 ∨ 9 < l.length ∨ (l.head? = some 48 ∧ 1 < l.length))) (h2 : l.all Pl.isDig = true) : rdV l = rdA l l.length ∧ rdB l = true := by
  unfold rdV rdB Pl.readN rdA
  rw [if_neg h, if_pos h2, List.take_length]
  exact ⟨rfl, rfl⟩
theorem size_len (s : ByteArray) : s.data.toList.length = s.size := by rw [Array.length_toList]; rfl
theorem byte_at {s : ByteArray} {k : Nat} (h : k < s.size) : ∃ x : UInt8, s[k] = x ∧ s.data.toList[k]? = some x := by
  refine ⟨s[k], rfl, ?_⟩
  rw [List.getElem?_eq_getElem (by rw [size_len]; exact h)]
  rfl
set_option maxHeartbeats 2000000 in
set_option maxRecDepth 20000 in
theorem l1Read_any (s : ByteArray) (w : World) (hs : s.size ≤ 9223372036854775807) :
    Calls Tryz.prog 30 #[.string s] w fun e w' => e = .returned (.tuple #[.int .i64 (rdV s.data.toList), .bool (rdB s.data.toList)]) ∧ w' = w := by
  have hl := size_len s
  by_cases h0 : s.size = 0
  · have HE := Lib.hid (rd_no (l := s.data.toList) (Or.inl (by omega)))
    go_enter Tryz.func30, Tryz.ntmps30
    go_wp2_with fail
    go_ret2
    rw [HE.out.1, HE.out.2]
    first | exact ⟨rfl, rfl⟩ | trace_state
  by_cases h9 : 9 < s.size
  · have HE := Lib.hid (rd_no (l := s.data.toList) (Or.inr (Or.inl (by omega))))
    go_enter Tryz.func30, Tryz.ntmps30
    go_wp2_with fail
    go_ret2
    rw [HE.out.1, HE.out.2]
    first | exact ⟨rfl, rfl⟩ | trace_state
  have h1 : 1 ≤ s.size := by omega
  obtain ⟨x, hx, hx2⟩ := byte_at (s := s) (k := 0) h1
  have hhd : s.data.toList.head? = some x := by rw [List.head?_eq_getElem?]; exact hx2
  by_cases hz : x.toNat = 48 ∧ 1 < s.size
  · have HE := Lib.hid (rd_no (l := s.data.toList) (Or.inr (Or.inr ⟨by rw [hhd]; congr 1; exact UInt8.toNat_inj.1 hz.1, by omega⟩)))
    obtain ⟨hz1, hz2⟩ := hz
    clear hx2 hhd
    go_enter Tryz.func30, Tryz.ntmps30
    go_wp2_with fail
    go_ret2
    rw [HE.out.1, HE.out.2]
    first | exact ⟨rfl, rfl⟩ | trace_state
  have HY := Lib.hid (fun h2 => rd_yes (l := s.data.toList) (by
    rw [hhd]
    rintro (h | h | ⟨h, h'⟩)
    · omega
    · omega
    · exact hz ⟨by simp at h; rw [h]; rfl, by omega⟩) h2)
  have HN := Lib.hid (fun h2 => rd_bad (l := s.data.toList) h2)
  have HB := Lib.hid (fun (k : Nat) (hk : k ≤ 9) h => rdA_bd9 (l := s.data.toList) hk h)
  have HZ := Lib.hid hz
  have hz2 : (¬ ((x.toNat : Int) = 48) ∧ ((x.toNat : Int) == 48) = false) ∨ s.size = 1 := by
    by_cases e : x.toNat = 48
    · right; have := fun h => hz ⟨e, h⟩; omega
    · left; exact ⟨by omega, by simp; omega⟩
  have h19 : s.size ≤ 9 := by omega
  have hq0 : ((s.size : Int) == 0) = false := by simp; intro h; subst h; simp at h1
  have hq9 : decide (9 < (s.size : Int)) = false := by simp; omega
  clear hx2 hhd hz h0 h9
  rcases hz2 with ⟨hz2, hz3⟩ | hz2
  · go_enter Tryz.func30, Tryz.ntmps30
    go_wp2_with fail
    all_goals (
      go_loop [4, 5] (fun q i => ∃ k : Nat, k ≤ s.size ∧ i = .int .i64 k ∧ q = .int .i64 (rdA s.data.toList k) ∧ Hid ((s.data.toList.take k).all Pl.isDig = true)) (fun _ i => s.size - (intOf i).toNat)
      case atStart => exact ⟨0, Nat.zero_le _, rfl, rfl, Lib.hid (by simp)⟩
      case round =>
        obtain ⟨k, hk, rfl, rfl, HD⟩ := hrel
        have hb := HB.out k (by omega) HD.out
        by_cases hlt : k < s.size
        · obtain ⟨y, hy, hy2⟩ := byte_at (s := s) (k := k) hlt
          have hy255 := y.toNat_lt
          by_cases hd : 48 ≤ y.toNat ∧ y.toNat ≤ 57
          · have HS := Lib.hid (rdA_step hy2).1
            have HD2 : Hid ((s.data.toList.take (k + 1)).all Pl.isDig = true) := Lib.hid (by rw [(rdA_step hy2).2, HD.out, show Pl.isDig y = true from decide_eq_true hd]; rfl)
            have hd1 : ¬ (y.toNat : Int) < 48 := by omega
            have hd2 : ¬ 57 < (y.toNat : Int) := by omega
            clear hy2 HD
            go_wp2_with fail
            go_round
            case rel => exact ⟨k + 1, by omega, by go_num, by rw [HS.out]; try go_num, HD2⟩
            case measure => simp [intOf]; omega
          · have HE := Lib.hid (HN.out (by
              have e : (s.data.toList.take (k + 1)).all Pl.isDig = false := by rw [(rdA_step hy2).2, show Pl.isDig y = false from decide_eq_false hd, Bool.and_false]
              cases h : s.data.toList.all Pl.isDig with
              | false => rfl
              | true =>
                rw [List.all_eq_true] at h
                rw [List.all_eq_false] at e
                obtain ⟨z, hz, hz'⟩ := e
                exact absurd (h z (List.mem_of_mem_take hz)) hz'))
            clear hy2 HD
            rcases (by omega : (y.toNat : Int) < 48 ∨ (¬ (y.toNat : Int) < 48 ∧ 57 < (y.toNat : Int))) with hd1 | ⟨hd1, hd2⟩
            · go_wp2_with fail
              go_ret2
              rw [HE.out.1, HE.out.2]
              exact ⟨rfl, rfl⟩
            · go_wp2_with fail
              go_ret2
              rw [HE.out.1, HE.out.2]
              exact ⟨rfl, rfl⟩
        · obtain rfl : k = s.size := by omega
          have HE := Lib.hid (HY.out (by have := HD.out; rwa [List.take_of_length_le (by omega)] at this))
          go_wp2_with fail
          go_ret2
          rw [HE.out.1, HE.out.2, hl]
          first | exact ⟨rfl, rfl⟩ | (rw [hz2]; exact ⟨rfl, rfl⟩))
  · go_enter Tryz.func30, Tryz.ntmps30
    go_wp2_with fail
    all_goals (
      go_loop [4, 5] (fun q i => ∃ k : Nat, k ≤ s.size ∧ i = .int .i64 k ∧ q = .int .i64 (rdA s.data.toList k) ∧ Hid ((s.data.toList.take k).all Pl.isDig = true)) (fun _ i => s.size - (intOf i).toNat)
      case atStart => exact ⟨0, Nat.zero_le _, rfl, rfl, Lib.hid (by simp)⟩
      case round =>
        obtain ⟨k, hk, rfl, rfl, HD⟩ := hrel
        have hb := HB.out k (by omega) HD.out
        by_cases hlt : k < s.size
        · obtain ⟨y, hy, hy2⟩ := byte_at (s := s) (k := k) hlt
          have hy255 := y.toNat_lt
          by_cases hd : 48 ≤ y.toNat ∧ y.toNat ≤ 57
          · have HS := Lib.hid (rdA_step hy2).1
            have HD2 : Hid ((s.data.toList.take (k + 1)).all Pl.isDig = true) := Lib.hid (by rw [(rdA_step hy2).2, HD.out, show Pl.isDig y = true from decide_eq_true hd]; rfl)
            have hd1 : ¬ (y.toNat : Int) < 48 := by omega
            have hd2 : ¬ 57 < (y.toNat : Int) := by omega
            clear hy2 HD
            go_wp2_with fail
            go_round
            case rel => exact ⟨k + 1, by omega, by go_num, by rw [HS.out]; try go_num, HD2⟩
            case measure => simp [intOf]; omega
          · have HE := Lib.hid (HN.out (by
              have e : (s.data.toList.take (k + 1)).all Pl.isDig = false := by rw [(rdA_step hy2).2, show Pl.isDig y = false from decide_eq_false hd, Bool.and_false]
              cases h : s.data.toList.all Pl.isDig with
              | false => rfl
              | true =>
                rw [List.all_eq_true] at h
                rw [List.all_eq_false] at e
                obtain ⟨z, hz, hz'⟩ := e
                exact absurd (h z (List.mem_of_mem_take hz)) hz'))
            clear hy2 HD
            rcases (by omega : (y.toNat : Int) < 48 ∨ (¬ (y.toNat : Int) < 48 ∧ 57 < (y.toNat : Int))) with hd1 | ⟨hd1, hd2⟩
            · go_wp2_with fail
              go_ret2
              rw [HE.out.1, HE.out.2]
              exact ⟨rfl, rfl⟩
            · go_wp2_with fail
              go_ret2
              rw [HE.out.1, HE.out.2]
              exact ⟨rfl, rfl⟩
        · obtain rfl : k = s.size := by omega
          have HE := Lib.hid (HY.out (by have := HD.out; rwa [List.take_of_length_le (by omega)] at this))
          go_wp2_with fail
          go_ret2
          rw [HE.out.1, HE.out.2, hl]
          first | exact ⟨rfl, rfl⟩ | (rw [hz2]; exact ⟨rfl, rfl⟩))
set_option maxHeartbeats 2000000 in
set_option maxRecDepth 20000 in
theorem parseNum_any (s : ByteArray) (w : World) (hs : s.size ≤ 9223372036854775807) :
    Calls Tryz.prog 81 #[.string s] w fun e w' => e = .returned (.tuple #[.int .i64 (rdV s.data.toList), .bool (rdB s.data.toList)]) ∧ w' = w := by
  have hl := size_len s
  by_cases h0 : s.size = 0
  · have HE := Lib.hid (rd_no (l := s.data.toList) (Or.inl (by omega)))
    go_enter Tryz.func81, Tryz.ntmps81
    go_wp2_with fail
    go_ret2
    rw [HE.out.1, HE.out.2]
    first | exact ⟨rfl, rfl⟩ | trace_state
  by_cases h9 : 9 < s.size
  · have HE := Lib.hid (rd_no (l := s.data.toList) (Or.inr (Or.inl (by omega))))
    go_enter Tryz.func81, Tryz.ntmps81
    go_wp2_with fail
    go_ret2
    rw [HE.out.1, HE.out.2]
    first | exact ⟨rfl, rfl⟩ | trace_state
  have h1 : 1 ≤ s.size := by omega
  obtain ⟨x, hx, hx2⟩ := byte_at (s := s) (k := 0) h1
  have hhd : s.data.toList.head? = some x := by rw [List.head?_eq_getElem?]; exact hx2
  by_cases hz : x.toNat = 48 ∧ 1 < s.size
  · have HE := Lib.hid (rd_no (l := s.data.toList) (Or.inr (Or.inr ⟨by rw [hhd]; congr 1; exact UInt8.toNat_inj.1 hz.1, by omega⟩)))
    obtain ⟨hz1, hz2⟩ := hz
    clear hx2 hhd
    go_enter Tryz.func81, Tryz.ntmps81
    go_wp2_with fail
    go_ret2
    rw [HE.out.1, HE.out.2]
    first | exact ⟨rfl, rfl⟩ | trace_state
  have HY := Lib.hid (fun h2 => rd_yes (l := s.data.toList) (by
    rw [hhd]
    rintro (h | h | ⟨h, h'⟩)
    · omega
    · omega
    · exact hz ⟨by simp at h; rw [h]; rfl, by omega⟩) h2)
  have HN := Lib.hid (fun h2 => rd_bad (l := s.data.toList) h2)
  have HB := Lib.hid (fun (k : Nat) (hk : k ≤ 9) h => rdA_bd9 (l := s.data.toList) hk h)
  have HZ := Lib.hid hz
  have hz2 : (¬ ((x.toNat : Int) = 48) ∧ ((x.toNat : Int) == 48) = false) ∨ s.size = 1 := by
    by_cases e : x.toNat = 48
    · right; have := fun h => hz ⟨e, h⟩; omega
    · left; exact ⟨by omega, by simp; omega⟩
  have h19 : s.size ≤ 9 := by omega
  have hq0 : ((s.size : Int) == 0) = false := by simp; intro h; subst h; simp at h1
  have hq9 : decide (9 < (s.size : Int)) = false := by simp; omega
  clear hx2 hhd hz h0 h9
  rcases hz2 with ⟨hz2, hz3⟩ | hz2
  · go_enter Tryz.func81, Tryz.ntmps81
    go_wp2_with fail
    all_goals (
      go_loop [4, 26] (fun q i => ∃ k : Nat, k ≤ s.size ∧ i = .int .i64 k ∧ q = .int .i64 (rdA s.data.toList k) ∧ Hid ((s.data.toList.take k).all Pl.isDig = true)) (fun _ i => s.size - (intOf i).toNat)
      case atStart => exact ⟨0, Nat.zero_le _, rfl, rfl, Lib.hid (by simp)⟩
      case round =>
        obtain ⟨k, hk, rfl, rfl, HD⟩ := hrel
        have hb := HB.out k (by omega) HD.out
        by_cases hlt : k < s.size
        · obtain ⟨y, hy, hy2⟩ := byte_at (s := s) (k := k) hlt
          have hy255 := y.toNat_lt
          by_cases hd : 48 ≤ y.toNat ∧ y.toNat ≤ 57
          · have HS := Lib.hid (rdA_step hy2).1
            have HD2 : Hid ((s.data.toList.take (k + 1)).all Pl.isDig = true) := Lib.hid (by rw [(rdA_step hy2).2, HD.out, show Pl.isDig y = true from decide_eq_true hd]; rfl)
            have hd1 : ¬ (y.toNat : Int) < 48 := by omega
            have hd2 : ¬ 57 < (y.toNat : Int) := by omega
            clear hy2 HD
            go_wp2_with fail
            go_round
            case rel => exact ⟨k + 1, by omega, by go_num, by rw [HS.out]; try go_num, HD2⟩
            case measure => simp [intOf]; omega
          · have HE := Lib.hid (HN.out (by
              have e : (s.data.toList.take (k + 1)).all Pl.isDig = false := by rw [(rdA_step hy2).2, show Pl.isDig y = false from decide_eq_false hd, Bool.and_false]
              cases h : s.data.toList.all Pl.isDig with
              | false => rfl
              | true =>
                rw [List.all_eq_true] at h
                rw [List.all_eq_false] at e
                obtain ⟨z, hz, hz'⟩ := e
                exact absurd (h z (List.mem_of_mem_take hz)) hz'))
            clear hy2 HD
            rcases (by omega : (y.toNat : Int) < 48 ∨ (¬ (y.toNat : Int) < 48 ∧ 57 < (y.toNat : Int))) with hd1 | ⟨hd1, hd2⟩
            · go_wp2_with fail
              go_ret2
              rw [HE.out.1, HE.out.2]
              exact ⟨rfl, rfl⟩
            · go_wp2_with fail
              go_ret2
              rw [HE.out.1, HE.out.2]
              exact ⟨rfl, rfl⟩
        · obtain rfl : k = s.size := by omega
          have HE := Lib.hid (HY.out (by have := HD.out; rwa [List.take_of_length_le (by omega)] at this))
          go_wp2_with fail
          go_ret2
          rw [HE.out.1, HE.out.2, hl]
          first | exact ⟨rfl, rfl⟩ | (rw [hz2]; exact ⟨rfl, rfl⟩))
  · go_enter Tryz.func81, Tryz.ntmps81
    go_wp2_with fail
    all_goals (
      go_loop [4, 26] (fun q i => ∃ k : Nat, k ≤ s.size ∧ i = .int .i64 k ∧ q = .int .i64 (rdA s.data.toList k) ∧ Hid ((s.data.toList.take k).all Pl.isDig = true)) (fun _ i => s.size - (intOf i).toNat)
      case atStart => exact ⟨0, Nat.zero_le _, rfl, rfl, Lib.hid (by simp)⟩
      case round =>
        obtain ⟨k, hk, rfl, rfl, HD⟩ := hrel
        have hb := HB.out k (by omega) HD.out
        by_cases hlt : k < s.size
        · obtain ⟨y, hy, hy2⟩ := byte_at (s := s) (k := k) hlt
          have hy255 := y.toNat_lt
          by_cases hd : 48 ≤ y.toNat ∧ y.toNat ≤ 57
          · have HS := Lib.hid (rdA_step hy2).1
            have HD2 : Hid ((s.data.toList.take (k + 1)).all Pl.isDig = true) := Lib.hid (by rw [(rdA_step hy2).2, HD.out, show Pl.isDig y = true from decide_eq_true hd]; rfl)
            have hd1 : ¬ (y.toNat : Int) < 48 := by omega
            have hd2 : ¬ 57 < (y.toNat : Int) := by omega
            clear hy2 HD
            go_wp2_with fail
            go_round
            case rel => exact ⟨k + 1, by omega, by go_num, by rw [HS.out]; try go_num, HD2⟩
            case measure => simp [intOf]; omega
          · have HE := Lib.hid (HN.out (by
              have e : (s.data.toList.take (k + 1)).all Pl.isDig = false := by rw [(rdA_step hy2).2, show Pl.isDig y = false from decide_eq_false hd, Bool.and_false]
              cases h : s.data.toList.all Pl.isDig with
              | false => rfl
              | true =>
                rw [List.all_eq_true] at h
                rw [List.all_eq_false] at e
                obtain ⟨z, hz, hz'⟩ := e
                exact absurd (h z (List.mem_of_mem_take hz)) hz'))
            clear hy2 HD
            rcases (by omega : (y.toNat : Int) < 48 ∨ (¬ (y.toNat : Int) < 48 ∧ 57 < (y.toNat : Int))) with hd1 | ⟨hd1, hd2⟩
            · go_wp2_with fail
              go_ret2
              rw [HE.out.1, HE.out.2]
              exact ⟨rfl, rfl⟩
            · go_wp2_with fail
              go_ret2
              rw [HE.out.1, HE.out.2]
              exact ⟨rfl, rfl⟩
        · obtain rfl : k = s.size := by omega
          have HE := Lib.hid (HY.out (by have := HD.out; rwa [List.take_of_length_le (by omega)] at this))
          go_wp2_with fail
          go_ret2
          rw [HE.out.1, HE.out.2, hl]
          first | exact ⟨rfl, rfl⟩ | (rw [hz2]; exact ⟨rfl, rfl⟩))
end Go.Proofs.YtlcchafcgidpeaaGreatDoor
