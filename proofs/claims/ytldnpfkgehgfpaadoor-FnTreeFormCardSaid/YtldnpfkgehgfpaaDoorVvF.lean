
/-
  Contracts of VvNext (the program's and the reference's).
-/
import Derived.Test.YtldnpfkgehgfpaaDoorVvE
namespace Go.Proofs.YtldnpfkgehgfpaaDoor
open Go.RowKit

theorem emptyInts (w : World) : (w.alloc (.cells #[] 3)).ownsRow w.heap.size 3 1 (.slice (some ⟨w.heap.size, 0, none⟩) 0 0) 0 [] :=
  World.ownsRow_lit w #[] 0 (Nat.le_refl _) (by unfold maxLen; omega) rfl
theorem nextOk_iff (xs : List Int) (k : Nat) (hk : k < 3) (h : vvOk xs = true) : nextOk xs ((k : Int) + 1) = decide (xs.getD k 0 < 30) := by
  have e : ((k : Int) + 1 - 1).toNat = k := by omega
  simp [nextOk, h]
  omega
theorem nextOk_site (xs : List Int) (s : Int) (h : ¬ (1 ≤ s ∧ s ≤ 3)) : nextOk xs s = false := by
  simp [nextOk]; omega

end Go.Proofs.YtldnpfkgehgfpaaDoor
