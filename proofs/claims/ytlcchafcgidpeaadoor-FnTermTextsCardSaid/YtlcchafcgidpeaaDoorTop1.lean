/- The contracts of the functions that the statements compare, each in one form. -/
import Derived.Test.YtlcchafcgidpeaaDoorTerm2
namespace Go.Proofs.YtlcchafcgidpeaaDoor
open Go.RowKit
set_option linter.unusedVariables false
theorem I_SameTerm (A : Option Addr) (n c : Nat) (xs : List Int) (B : Option Addr) (m d : Nat) (ys : List Int) (w : World) (h : RI w A n xs) (h' : RI w B m ys) (hn : n ≤ 1048576) (hm : m ≤ 1048576) :
    Calls Tryd.prog 44 #[.slice A n c, .slice B m d] w fun e w' => e = .returned (.bool (decide (xs = ys))) ∧ Below w.heap.size w w' := implSameTerm_any A n c xs B m d ys w h h' (by omega)
theorem S_SigOk (A : Option Addr) (n c : Nat) (xs : List Int) (w : World) (h : RI w A n xs) (hn : n ≤ 1048576) :
    Calls Tryd.prog 51 #[.agg #[.slice A n c]] w fun e w' => e = .returned (.bool (Pl.sigOk xs)) ∧ Below w.heap.size w w' := specSigOk_any A n c xs w h (by omega)
theorem I_SigOk (A : Option Addr) (n c : Nat) (xs : List Int) (w : World) (h : RI w A n xs) (hn : n ≤ 1048576) :
    Calls Tryd.prog 54 #[.agg #[.slice A n c]] w fun e w' => e = .returned (.bool (Pl.sigOk xs)) ∧ Below w.heap.size w w' := implSigOk_any A n c xs w h (by omega)
theorem S_TermOk (A : Option Addr) (n c : Nat) (xs : List Int) (B : Option Addr) (m d : Nat) (t : List Int) (w : World) (h : RI w A n xs) (h' : RI w B m t) (hn : n ≤ 1048576) (hm : m ≤ 1048576) :
    Calls Tryd.prog 56 #[.agg #[.slice A n c], .slice B m d] w fun e w' => e = .returned (.bool (Pl.termOk xs t)) ∧ Below w.heap.size w w' := specTermOk_any A n c xs B m d t w h h' (by omega) (by omega)
theorem I_TermOk (A : Option Addr) (n c : Nat) (xs : List Int) (B : Option Addr) (m d : Nat) (t : List Int) (w : World) (h : RI w A n xs) (h' : RI w B m t) (hn : n ≤ 1048576) (hm : m ≤ 1048576) :
    Calls Tryd.prog 58 #[.agg #[.slice A n c], .slice B m d] w fun e w' => e = .returned (.bool (Pl.termOk xs t)) ∧ Below w.heap.size w w' := implTermOk_any A n c xs B m d t w h h' (by omega) (by omega)
end Go.Proofs.YtlcchafcgidpeaaDoor
