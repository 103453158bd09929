
/-
  Contracts of the helpers of the exact laws on one version: szIntS, szSib, toSib, eqSib.
-/
import Derived.Test.YtldnpfkgehgfpaaDoorSibMem
namespace Go.Proofs.YtldnpfkgehgfpaaDoor
open Go.RowKit Go.PlainAid

theorem Ints.setC {w : World} {lo hi n : Nat} {A : Option Addr} {xs : List Int} {q : Addr} {u : Value} (h : Ints w lo hi A n xs) (hq : q.block < lo ∨ hi ≤ q.block) : Ints (w.setCell q u) lo hi A n xs := h.keep fun b h1 h2 => Below.heap_setCell w q u b (by omega)

end Go.Proofs.YtldnpfkgehgfpaaDoor
