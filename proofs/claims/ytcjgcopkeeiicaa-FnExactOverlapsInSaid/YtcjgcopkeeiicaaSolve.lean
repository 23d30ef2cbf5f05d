/- Contracts: the program's solver, with its panic and its recovery. -/
import Derived.Test.YtcjgcopkeeiicaaEqu
import Derived.Recover
import Derived.Laws.Pointers
namespace Go.Proofs.Ytcjgcopkeeiicaa
open Go.RowKit
set_option linter.unusedVariables false
set_option linter.unusedSimpArgs false

set_option maxRecDepth 20000 in
theorem catch_clash (p : Addr) (b : Bool) (older : List PanicEntry) (w : World) (hc : w.cell? p = some (.bool b)) (hz : w.frozen? p = false) (hp : p.block < w.heap.size) :
    CallsD Try.prog 74 #[.pointer (some p)] (.panicking ({ v := .iface 103 (.agg #[]), recovered := false } :: older)) w fun e u' w' =>
      e = .returned (.tuple #[]) ∧ u' = .panicking ({ v := .iface 103 (.agg #[]), recovered := true } :: older) ∧ w' = (w.alloc (.cells #[] 103)).setCell p (.bool false) := by
  refine callsD_of_wpS Try.func74 rfl fun c₀ cs hu => ?_
  apply wpS_seq
  apply wpS_region
  simp [wpOpsS, go_sem, recoverD, hu, Try.ntmps74, Exit.thenS]
  refine wpS_of_wp ?_
  simp only [Array.replicate, List.replicate, List.setIfInBounds_toArray, List.set_cons_zero, List.set_cons_succ, List.append_toArray, List.cons_append, List.nil_append]
  have hta : ∀ w : World, (Instr.typeAssert (.iface 103 (.agg #[])) 20 103 true).run Try.prog w = .ok (.tuple #[.agg #[], .bool true]) w := fun _ => by kernel_rfl
  have hz2 : (w.alloc (.cells #[] 103)).frozen? p = false := (((Below.refl w.heap.size w).alloc (Nat.le_refl _) _).frozen hp).trans hz
  have hc2 : (w.alloc (.cells #[] 103)).cell? p = some (.bool b) := (((Below.refl w.heap.size w).alloc (Nat.le_refl _) _).cell hp).trans hc
  go_wp2
  cases c₀
  simp_all [bodyPostS, results, Try.results74]
set_option maxRecDepth 20000 in
theorem catch_none (p : Addr) (w : World) :
    CallsD Try.prog 74 #[.pointer (some p)] .returning w fun e u' w' => e = .returned (.tuple #[]) ∧ u' = .returning ∧ w' = w := by
  refine callsD_of_wpS Try.func74 rfl fun c₀ cs hu => ?_
  apply wpS_seq
  apply wpS_region
  simp [wpOpsS, go_sem, recoverD, hu, Try.ntmps74, Exit.thenS]
  refine wpS_of_wp ?_
  go_wp2
  cases c₀
  simp_all [bodyPostS, results, Try.results74]
/-- How the solver ends. -/
def SolD (T : TypeId) (hd : List Value) (w0 w : World) (U : Nat) (f : Int → Int) (B : Un.Bd) (s t : List Int) (e : Ending) (w' : World) : Prop :=
  Only U (U + 1) w w' ∧ ((∃ B', e = .returned (.bool true) ∧ Bnd w0 w' U T hd B' ∧ Un.Step f B B' s t) ∨ (e = .returned (.bool false) ∧ Un.Clash f B s t))
theorem only_setNew {U : Nat} {w w' : World} (h : Only U (U + 1) w w') {p : Addr} (hp : w.heap.size ≤ p.block) (u : Value) : Only U (U + 1) w (w'.setCell p u) :=
  ⟨h.os, h.tape, h.output, by have := h.size; simpa [World.setCell] using this, fun k hk hd => (Below.heap_setCell w' p u k (by omega)).trans (h.block k hk hd)⟩
theorem Bnd.far {w0 w : World} {G : Nat} {T : TypeId} {hd : List Value} {B : Un.Bd} (h : Bnd w0 w G T hd B) {p : Addr} (hp : G ≠ p.block) (u : Value) : Bnd w0 (w.setCell p u) G T hd B := by
  obtain ⟨vs, hl, hk, hv⟩ := h
  exact ⟨vs, hl, hk.far hp u, hv⟩
set_option maxHeartbeats 1000000 in
set_option maxRecDepth 20000 in
theorem solve_any (f : Int → Int) (U : Nat) (w0 : World) (A : Option Addr) (n c : Nat) (xs : List Int) (hf : f = Pl.nxt xs) (hsg : SG w0 U A n xs) (hs : Pl.sigOk xs = true) (hU : U < w0.heap.size)
    (B : Un.Bd) (σ : Int → List Int) (rk : Int → Nat) (s t : List Int) (v v' : Value) (w : World) (gd : Un.Good f 48 B σ rk) (hv : SV w0 U v s) (hv' : SV w0 U v' t) (h1 : Un.WT f s) (h2 : Un.WT f t)
    (hb : Bnd w0 w U 95 [.slice A n c] B) (ho : Only U (U + 1) w0 w) :
    Calls Try.prog 64 #[.pointer (some ⟨U, 0, none⟩), v, v'] w (SolD 95 [.slice A n c] w0 w U f B s t) := by
  have hmf : ∀ (fn : Fn) (first cap : Array Value) (w : World), (Instr.makeFunc fn first cap).run Try.prog w = .ok (.func fn first cap) w := fun _ _ _ _ => rfl
  have hsz := ho.size
  have HF := Lib.hid hf
  clear hf
  go_enter_defers Try.func64, Try.ntmps64
  go_wp2_with fail
  have hB0 : Below w.heap.size w (w.alloc (.cells #[.bool false] 4)) := (Below.refl _ _).alloc (Nat.le_refl _) _
  have bk : Blk (w.alloc (.cells #[.bool false] 4)) w.heap.size 4 #[.bool false] := Blk.new _ _ _
  refine (equate_any f U w0 A n c xs HF.out hsg hs hU _ _ B σ rk s t v v' _ gd rfl rfl hv hv' h1 h2 (hb.below hB0) (ho.trans (Only.of hB0))).mono ?_
  rintro e w2 ⟨ho2, ⟨B', rfl, hb2, hst⟩ | ⟨rfl, hcl⟩⟩
  · have bk2 : Blk w2 w.heap.size 4 #[.bool false] := (ho2.block _ bk.lt (by omega)).trans bk
    have hc2 := bk2.cell 0
    have hf2 := bk2.frozen 0
    have HST := Lib.hid hst
    have HB2 := Lib.hid hb2
    clear hst hb2 bk
    go_wp2
    refine leaves_cons (f := 74) (args := #[.pointer (some ⟨w.heap.size, 0, none⟩)]) (by simp) (by simp [go_sem]) ?_
    refine (catch_none ⟨w.heap.size, 0, none⟩ _).mono ?_
    rintro e u' w'' ⟨rfl, rfl, rfl⟩
    have hc3 := (bk2.set_ 0 (.bool true)).cell 0
    refine ⟨.bool true, by simp [results, Try.results64, go_sem, hc2], ?_⟩
    exact ⟨only_setNew ((Only.of hB0).trans ho2) (Nat.le_refl _) _, .inl ⟨B', rfl, HB2.out.far (by dsimp only; omega) _, HST.out⟩⟩
  · have bk2 : Blk w2 w.heap.size 4 #[.bool false] := (ho2.block _ bk.lt (by omega)).trans bk
    have hc2 := bk2.cell 0
    have hf2 := bk2.frozen 0
    have HCL := Lib.hid hcl
    clear hcl bk
    go_wp2
    refine leaves_cons (f := 74) (args := #[.pointer (some ⟨w.heap.size, 0, none⟩)]) (by simp) (by simp [go_sem]) ?_
    refine (catch_clash ⟨w.heap.size, 0, none⟩ false [] _ hc2 hf2 bk2.lt).mono ?_
    rintro e u' w'' ⟨rfl, rfl, rfl⟩
    have hc3 := ((bk2.alloc (.cells #[] 103)).set_ 0 (.bool false)).cell 0
    have hc3 : ((w2.alloc (.cells #[] 103)).setCell ⟨w.heap.size, 0, none⟩ (.bool false)).cell? ⟨w.heap.size, 0, none⟩ = some (.bool false) := hc3
    refine ⟨.bool false, by simp [results, Try.results64, go_sem, hc2, hc3], ?_⟩
    exact ⟨only_setNew (((Only.of hB0).trans ho2).trans (Only.of ((Below.refl _ _).alloc (Nat.le_refl _) _))) (Nat.le_refl _) _, .inr ⟨rfl, HCL.out⟩⟩
end Go.Proofs.Ytcjgcopkeeiicaa
