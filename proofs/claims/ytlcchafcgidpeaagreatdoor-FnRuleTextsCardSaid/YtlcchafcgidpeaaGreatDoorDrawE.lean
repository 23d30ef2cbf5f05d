/- Contracts: drawn pairs of terms; a drawn signature with a term. -/
import Derived.Test.YtlcchafcgidpeaaGreatDoorDrawA
import Derived.Test.YtlcchafcgidpeaaGreatDoorCopy
namespace Go.Proofs.YtlcchafcgidpeaaGreatDoor
open Go.RowKit
set_option linter.unusedVariables false
set_option linter.unusedSimpArgs false

theorem RB.drew {w : World} {B : Nat} {A : Option Addr} {n : Nat} {xs : List Int} (h : RB w B A n xs) : RB w.drew B A n xs := h
