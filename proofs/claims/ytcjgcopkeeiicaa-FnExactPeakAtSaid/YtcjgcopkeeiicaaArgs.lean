/- Contracts: the places of arguments; depth; paths. -/
import Derived.Test.YtcjgcopkeeiicaaPlace
import Derived.Test.YtcjgcopkeeiicaaApp
import Derived.Test.YtcjgcopkeeiicaaBase
namespace Go.Proofs.Ytcjgcopkeeiicaa
open Go.RowKit
set_option linter.unusedVariables false

def nats (l : List Nat) : List Int := l.map fun n : Nat => (n : Int)
theorem nats_length (l : List Nat) : (nats l).length = l.length := by simp [nats]
theorem nats_snoc (l : List Nat) (n : Nat) : nats (l ++ [n]) = nats l ++ [(n : Int)] := by simp [nats]
theorem nats_getD (l : List Nat) (i : Nat) (h : i < l.length) : (nats l).getD i 0 = (l.getD i 0 : Nat) := by simp [nats, List.getD_eq_getElem?_getD, h]

/-- A row of ints that the call itself made. -/
def OJ (w : World) (B : Nat) (A : Option Addr) (n c : Nat) (xs : List Int) : Prop := w.ownsRow B 3 1 (.slice A n c) n (xs.map (Value.int .i64))
theorem OJ.ri {w : World} {B : Nat} {A : Option Addr} {n c : Nat} {xs : List Int} (h : OJ w B A n c xs) : RI w A n xs := RI.of_own h rfl
theorem infoInt : (Try.prog.info? 3).map (fun i => (i.zero, i.size, i.bytes)) = some (some (.int .i64 0), 1, 8) := by kernel_rfl

theorem oi_nats {w : World} {B : Nat} {A : Option Addr} {c : Nat} {l : List Nat} {q : Nat} (h : w.ownsRow B 2 1 (.slice A (l.length + 1) c) (l.length + 1) ((nats l).map (Value.int .i64) ++ [.int .i64 (q : Int)])) : OI w B A (l ++ [q]).length c (nats (l ++ [q])) := by
  rw [List.length_append, nats_snoc]; unfold OI; rw [List.map_append]; exact h
theorem oj_nats {w : World} {B : Nat} {A : Option Addr} {c : Nat} {l : List Nat} {q : Nat} (h : w.ownsRow B 3 1 (.slice A (l.length + 1) c) (l.length + 1) ((nats l).map (Value.int .i64) ++ [.int .i64 (q : Int)])) : OJ w B A (l ++ [q]).length c (nats (l ++ [q])) := by
  rw [List.length_append, nats_snoc]; unfold OJ; rw [List.map_append]; exact h

/-- What is still to be laid of a row of arguments. -/
def Rest (f : Int → Int) (t : List Int) (F : Nat) (all done : List Nat) (r q : Nat) : Prop :=
  done ++ Pl.argsFrom f t r q = all ∧ Pl.run f r (t.drop q) = some (F - q) ∧ q ≤ F ∧ F ≤ t.length
theorem Rest.step {f : Int → Int} {t : List Int} {F r q : Nat} {all done : List Nat} (h : Rest f t F all done (r + 1) q) : q < t.length ∧ Rest f t F all (done ++ [q]) r (Pl.fin f t q) := by
  obtain ⟨h1, h2, h3, h4⟩ := h
  obtain ⟨a1, a2, a3, a4⟩ := Pl.args_next h2 (by omega)
  refine ⟨by omega, ?_, ?_, by omega, h4⟩
  · rw [← h1]; simp [Pl.argsFrom]
  · rw [a4]; congr 1; omega
theorem Rest.done_ {f : Int → Int} {t : List Int} {F q : Nat} {all done : List Nat} (h : Rest f t F all done 0 q) : done = all := by
  have := h.1; simpa [Pl.argsFrom] using this
theorem Rest.start {ar t : List Int} (hT : Pl.termOk ar t = true) {p : Nat} (hp : p < t.length) : Rest (Pl.ari ar) t (Pl.fin (Pl.ari ar) t p) (Pl.args (Pl.ari ar) t p) [] (Pl.ari ar (t.getD p 0)).toNat (p + 1) := by
  obtain ⟨a1, a2, a3, a4⟩ := Pl.args_start (Pl.termOk_iff.1 hT).2.2 hp
  exact ⟨rfl, a2, a3, a4⟩
theorem Rest.len {f : Int → Int} {t : List Int} {F r q : Nat} {all done : List Nat} (h : Rest f t F all done r q) : done.length + r = all.length := by
  rw [← h.1, List.length_append, Pl.argsFrom_length]
theorem args_len {ar t : List Int} (hT : Pl.termOk ar t = true) (p : Nat) : (Pl.args (Pl.ari ar) t p).length ≤ 3 := by
  unfold Pl.args
  rw [Pl.argsFrom_length]
  have := Pl.ari_bd (Pl.termOk_iff.1 hT).1 (t.getD p 0)
  omega

set_option maxHeartbeats 2000000 in
set_option maxRecDepth 20000 in
theorem argsAt_any (A : Option Addr) (n c : Nat) (xs : List Int) (B : Option Addr) (m d : Nat) (t : List Int) (p : Nat) (w : World)
    (h : RI w A n xs) (h' : RI w B m t) (hT : Pl.termOk xs t = true) (hp : p < m) (hm : m ≤ 1048576) (hn : n ≤ 1048576) :
    Calls Try.prog 81 #[.agg #[.slice A n c], .slice B m d, .int .i64 p] w fun e w' => ∃ A' c', e = .returned (.slice A' (Pl.args (Pl.ari xs) t p).length c') ∧ OJ w' w.heap.size A' (Pl.args (Pl.ari xs) t p).length c' (nats (Pl.args (Pl.ari xs) t p)) ∧ Below w.heap.size w w' := by
  obtain ⟨i0, hi, hz0, hz1, hz2⟩ := info_parts infoInt
  have hst := Lib.hid (Rest.start hT (p := p) (by rw [h'.1]; exact hp))
  have hal := args_len hT p
  have hbd := Pl.ari_bd (Pl.termOk_iff.1 hT).1 (t.getD p 0)
  have ha0 : 0 ≤ Pl.ari xs (t.getD p 0) := (Pl.args_start (Pl.termOk_iff.1 hT).2.2 (p := p) (by rw [h'.1]; exact hp)).1
  have HT := Lib.hid hT
  clear hT
  generalize hL : Pl.args (Pl.ari xs) t p = L at *
  have HL := Lib.hid hL
  clear hL
  obtain ⟨g, off, x, rfl, hc, hx⟩ := h'.at_ hp
  rw [← hx.out] at hst hbd ha0
  have hge := Pl.termOk_ge HT.out x (by rw [hx.out]; exact Pl.getD_mem (by rw [h'.1]; exact hp))
  have hxn : x < (n : Int) := by rw [← h.1]; exact hge.2
  have hnx : Pl.nxt xs x = Pl.ari xs x := Pl.nxt_ari hge.1
  have HNX := Lib.hid hnx
  clear hge hnx
  have hi0 : (0 : Int) ≤ (p : Int) := by omega
  have hi1 : (p : Int) < (m : Int) := by omega
  go_enter Try.func81, Try.ntmps81
  go_wp2_with fail
  have W0b : Below w.heap.size w (w.alloc (.cells #[.slice A n c] 30)) := (Below.refl _ _).alloc (Nat.le_refl _) _
  have hbox : (w.alloc (.cells #[.slice A n c] 30)).cell? ⟨w.heap.size, 0, none⟩ = some (.slice A n c) := by simp
  have hc0 := keepC W0b hc
  have hO : OJ (w.alloc (.cells #[.slice A n c] 30)) (w.heap.size + 1) none 0 0 [] := World.ownsRow_nil _ _ _ _
  have HO := Lib.hid hO
  have hsz : w.heap.size < (w.alloc (.cells #[.slice A n c] 30)).heap.size := by simp
  clear hO
  generalize w.alloc (.cells #[.slice A n c] 30) = W0 at *
  go_region_held3 (fun w' => Below W0.heap.size W0 w' ∧ w'.cell? ⟨w.heap.size, 0, none⟩ = some (.slice A n c) ∧ w'.cell? ⟨g, off + p, none⟩ = some (.int .i64 x))
    (first | exact ⟨(Below.refl _ _).drew, hbox, hc0⟩ | exact keepS2 hb1 (by assumption))
    ((go_at_call 83; refine (arityAt_any A n c xs x _ ?_ hxn).mono ?_; exact riS (h.below W0b) (by assumption); rintro e w1 ⟨rfl, hb1⟩))
  rename_i hS
  obtain ⟨hbA, hbx1, _⟩ := hS
  have hB1 : Below w.heap.size w w1 := below_then W0b hbA (Nat.le_of_lt hsz)
  have HO1 : Hid (OJ w1 (w.heap.size + 1) none 0 0 []) := ownsRow_below HO.out hbA
  have hsz1 : w.heap.size < w1.heap.size := by have := hbA.size; omega
  rw [HNX.out]
  obtain ⟨r, hr⟩ : ∃ r : Nat, Pl.ari xs x = r := ⟨(Pl.ari xs x).toNat, by omega⟩
  rw [hr, Int.toNat_natCast] at hst
  rw [hr]
  have hr3 : r ≤ 3 := by omega
  clear hbA hb1 W0b hc0 hr hbd ha0 HO hbox hc
  go_wp2_with fail
  go_loopw [7, 8, 9] (fun u v k wr => ∃ (done : List Nat) (r q : Nat) (A' : Option Addr) (c' : Nat), u = .slice A' done.length c' ∧ v = .int .i64 q ∧ k = .int .i64 r ∧ Hid (Rest (Pl.ari xs) t (Pl.fin (Pl.ari xs) t p) L done r q) ∧ Hid (OJ wr (w.heap.size + 1) A' done.length c' (nats done)) ∧ Below w.heap.size w wr ∧ wr.cell? ⟨w.heap.size, 0, none⟩ = some (.slice A n c) ∧ w.heap.size < wr.heap.size) (fun _ _ k _ => (intOf k).toNat)
  case atStart => exact ⟨[], r, p + 1, _, _, rfl, by go_num, rfl, hst, HO1, hB1, hbx1, hsz1⟩
  case round =>
    obtain ⟨done, r, q, A', c', rfl, rfl, rfl, hrest, ho, hb, hbx, hsz⟩ := hrel
    have hlen : done.length + r ≤ 3 := by have := hrest.out.len; omega
    cases r with
    | zero =>
      have hd := Lib.hid hrest.out.done_
      go_wp2
      go_ret
      rw [← hd.out]
      exact ⟨A', c', rfl, ownsRow_base ho.out (by omega), hb⟩
    | succ r =>
      have hst' := hrest.out.step
      have hq := hst'.1
      have HR := Lib.hid hst'.2
      clear hst'
      rw [h'.1] at hq
      have hq0 : (0 : Int) ≤ (q : Int) := by omega
      have howa := Lib.hid (ownsRow_below ho.out ((Below.refl _ wr).alloc (Nat.le_refl _) (.cells #[.int .i64 q] 3)))
      go_wp2_with (at_builtin; refine wpList_append_any rfl _ _ 57 rfl (w.heap.size + 1) 3 i0 (.int .i64 0) 1 8 Try.underlying57 hi hz0 hz1 hz2 rfl (by omega) A' done.length c' ((nats done).map (Value.int .i64)) rfl howa.out _ 1 _ [.int .i64 q] rfl (Src.new _ [.int .i64 q] _ 1 1 rfl (by simp [Value.oneCell'])) (by unfold maxLen; omega) (by omega) (by simp; omega) ?_; intro A2 c2 w2 ho2 hg hnil; (have hgb := app_below hg howa.out (by omega)); (have hbx2 := (hgb.cell (p := ⟨w.heap.size, 0, none⟩) (by simp)).trans hbx))
      have hb2 := hb.trans (hgb.mono (by omega))
      have hO2 := Lib.hid (oj_nats ho2)
      refine (endAt_ok A n c xs _ m d t q _ (h.below hb2) (h'.below hb2) HT.out hq).mono ?_
      rintro e w3 ⟨rfl, hb3⟩
      have hb4 := below_then hb2 hb3 hb2.size
      have hbx3 := keepC hb3 hbx2
      have hO3 : Hid (OJ w3 (w.heap.size + 1) A2 (done ++ [q]).length c2 (nats (done ++ [q]))) := ownsRow_below hO2.out hb3
      have hsz3 : w.heap.size < w3.heap.size := by have := hgb.size; have := hb3.size; omega
      clear hO2 hb2 hbx2 hgb howa ho ho2 hg hb hbx
      go_wp2_with fail
      go_roundw
      case rel => exact ⟨done ++ [q], r, _, A2, c2, by simp, rfl, by go_num, HR, hO3, hb4, hbx3, hsz3⟩
      case measure => simp [intOf]
end Go.Proofs.Ytcjgcopkeeiicaa
