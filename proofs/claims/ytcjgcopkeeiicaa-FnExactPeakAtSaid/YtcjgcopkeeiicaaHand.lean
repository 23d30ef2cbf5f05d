/- Regions that draw their order, by hand. -/
import Derived.Test.YtcjgcopkeeiicaaMem
import Derived.Deep.RegionHeld3
import Derived.KernelRfl
namespace Go.Proofs.Ytcjgcopkeeiicaa
open Go.RowKit
theorem at_zero {α : Type} {a : α} {l : List α} : (a :: l).toArray[0]? = some a := by simp
theorem at_succ {α : Type} {a o : α} {l : List α} {i : Nat} (h : l.toArray[i]? = some o) : (a :: l).toArray[i + 1]? = some o := by simpa using h
theorem step_unwanted {c : Bool} {A B : Prop} (h : c = false) (hb : B) : if c = true then A else B := by rw [h]; simpa using hb
theorem region_begin {P : Program} {ops : Array Oper} {Q : Exit → Act → World → Prop} {S : World → Prop} {id : Nat} {a : Act} {w : World} (hm : P.follows .mixedOrders = true) (hS : S w.drew) (hq : ∀ c (a : Act) (d : Tmp) (v : Value) (w : World), Q (.panic c) (a.put (some d) v) w → Q (.panic c) a w)
    (h : Hid (∀ c (a : Act) (d : Tmp) (v : Value) (w : World), Q (.panic c) (a.put (some d) v) w → Q (.panic c) a w) → S w.drew → wpAnyH P .any ops Q S ops.size (Array.replicate ops.size false) a w.drew) : (Code.region id ops true).wp P Q a w :=
  wp_region_held_drew hm hS (h (Lib.hid hq))
theorem region_begin2 {P : Program} {ops : Array Oper} {Q : Exit → Act → World → Prop} {S : World → Prop} {id : Nat} {a : Act} {w : World} (hm : P.follows .mixedOrders = true) (hS : S w.drew) (hq : ∀ c (a : Act) (d : Tmp) (v : Value) (w : World), Q (.panic c) (a.put (some d) v) w → Q (.panic c) a w)
    (h : Hid (∀ c (a : Act) (d : Tmp) (v : Value) (w : World), Q (.panic c) (a.put (some d) v) w → Q (.panic c) a w) → S w.drew → wpAnyH P .any ops Q S ops.size (Array.replicate ops.size false) a w.drew) : (Code.region id ops true).wp P Q a w :=
  region_begin hm hS hq h
end Go.Proofs.Ytcjgcopkeeiicaa
