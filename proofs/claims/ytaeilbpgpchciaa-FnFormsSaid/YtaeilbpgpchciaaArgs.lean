/- Contracts: the places of arguments; depth; paths. -/
import Derived.Test.YtaeilbpgpchciaaPlace
import Derived.Test.YtaeilbpgpchciaaApp
import Derived.Test.YtaeilbpgpchciaaBase
namespace Go.Proofs.Ytaeilbpgpchciaa
open Go.RowKit
set_option linter.unusedVariables false

def nats (l : List Nat) : List Int := l.map fun n : Nat => (n : Int)
theorem nats_length (l : List Nat) : (nats l).length = l.length := by simp [nats]
theorem nats_snoc (l : List Nat) (n : Nat) : nats (l ++ [n]) = nats l ++ [(n : Int)] := by simp [nats]
theorem nats_getD (l : List Nat) (i : Nat) (h : i < l.length) : (nats l).getD i 0 = (l.getD i 0 : Nat) := by simp [nats, List.getD_eq_getElem?_getD, h]

/-- A row of ints that the call itself made. -/
def OJ (w : World) (B : Nat) (A : Option Addr) (n c : Nat) (xs : List Int) : Prop := w.ownsRow B 3 1 (.slice A n c) n (xs.map (Value.int .i64))
theorem OJ.ri {w : World} {B : Nat} {A : Option Addr} {n c : Nat} {xs : List Int} (h : OJ w B A n c xs) : RI w A n xs := RI.of_own h rfl
theorem infoInt : (Try.prog.info? 3).map (fun i => (i.zero, i.size, i.bytes)) = some (some (.int .i64 0), 1, 8) := by kernel_rfl

theorem oi_nats {w : World} {B : Nat} {A : Option Addr} {c : Nat} {l : List Nat} {q : Nat} (h : w.ownsRow B 2 1 (.slice A (l.length + 1) c) (l.length + 1) ((nats l).map (Value.int .i64) ++ [.int .i64 (q : Int)])) : OI w B A (l ++ [q]).length c (nats (l ++ [q])) := by
  rw [List.length_append, nats_snoc]; unfold OI; rw [List.map_append]; exact h
theorem oj_nats {w : World} {B : Nat} {A : Option Addr} {c : Nat} {l : List Nat} {q : Nat} (h : w.ownsRow B 3 1 (.slice A (l.length + 1) c) (l.length + 1) ((nats l).map (Value.int .i64) ++ [.int .i64 (q : Int)])) : OJ w B A (l ++ [q]).length c (nats (l ++ [q])) := by
  rw [List.length_append, nats_snoc]; unfold OJ; rw [List.map_append]; exact h

/-- What is still to be laid of a row of arguments. -/
def Rest (f : Int → Int) (t : List Int) (F : Nat) (all done : List Nat) (r q : Nat) : Prop :=
  done ++ Pl.argsFrom f t r q = all ∧ Pl.run f r (t.drop q) = some (F - q) ∧ q ≤ F ∧ F ≤ t.length
theorem Rest.step {f : Int → Int} {t : List Int} {F r q : Nat} {all done : List Nat} (h : Rest f t F all done (r + 1) q) : q < t.length ∧ Rest f t F all (done ++ [q]) r (Pl.fin f t q) := by
  obtain ⟨h1, h2, h3, h4⟩ := h
  obtain ⟨a1, a2, a3, a4⟩ := Pl.args_next h2 (by omega)
  refine ⟨by omega, ?_, ?_, by omega, h4⟩
  · rw [← h1]; simp [Pl.argsFrom]
  · rw [a4]; congr 1; omega
theorem Rest.done_ {f : Int → Int} {t : List Int} {F q : Nat} {all done : List Nat} (h : Rest f t F all done 0 q) : done = all := by
  have := h.1; simpa [Pl.argsFrom] using this
theorem Rest.start {ar t : List Int} (hT : Pl.termOk ar t = true) {p : Nat} (hp : p < t.length) : Rest (Pl.ari ar) t (Pl.fin (Pl.ari ar) t p) (Pl.args (Pl.ari ar) t p) [] (Pl.ari ar (t.getD p 0)).toNat (p + 1) := by
  obtain ⟨a1, a2, a3, a4⟩ := Pl.args_start (Pl.termOk_iff.1 hT).2.2 hp
  exact ⟨rfl, a2, a3, a4⟩
theorem Rest.len {f : Int → Int} {t : List Int} {F r q : Nat} {all done : List Nat} (h : Rest f t F all done r q) : done.length + r = all.length := by
  rw [← h.1, List.length_append, Pl.argsFrom_length]
theorem args_len {ar t : List Int} (hT : Pl.termOk ar t = true) (p : Nat) : (Pl.args (Pl.ari ar) t p).length ≤ 3 := by
  unfold Pl.args
  rw [Pl.argsFrom_length]
  have := Pl.ari_bd (Pl.termOk_iff.1 hT).1 (t.getD p 0)
  omega

end Go.Proofs.Ytaeilbpgpchciaa
