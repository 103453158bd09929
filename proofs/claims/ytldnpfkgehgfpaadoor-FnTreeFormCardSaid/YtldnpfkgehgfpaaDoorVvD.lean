
/-
  Contracts of VvIn and VvJoin (the program's and the reference's), isSite.
-/
import Derived.Test.YtldnpfkgehgfpaaDoorVvC
namespace Go.Proofs.YtldnpfkgehgfpaaDoor
open Go.RowKit

def vvInOk (xs ys : List Int) : Bool := vvOk xs && (vvOk ys && vvIn xs ys)
def vvJoinOk (xs ys : List Int) : List Int := if vvOk xs && vvOk ys then vvJoin xs ys else []

/-- A list of integers that the call has made, or nothing. -/
def MadeInts (w w' : World) (zs : List Int) (e : Ending) : Prop :=
  ∃ A' c', e = .returned (.slice A' zs.length c') ∧ Below w.heap.size w w' ∧ w'.ownsRow w.heap.size 3 1 (.slice A' zs.length c') zs.length (zs.map (Value.int .i64))
theorem MadeInts.of {w w' : World} {zs : List Int} {n : Nat} {A' : Option Addr} {c' : Nat} (hn : zs.length = n) (hb : Below w.heap.size w w') (ho : w'.ownsRow w.heap.size 3 1 (.slice A' n c') n (zs.map (Value.int .i64))) :
    MadeInts w w' zs (.returned (.slice A' n c')) := by subst hn; exact ⟨A', c', rfl, hb, ho⟩
theorem MadeInts.nil (w : World) {zs : List Int} (hz : zs = []) : MadeInts w w zs (.returned (.slice none 0 0)) := by
  subst hz; exact ⟨none, 0, rfl, Below.refl _ _, World.ownsRow_nil _ _ _ _⟩
theorem MadeInts.empty (w : World) {zs : List Int} (hz : zs = []) : MadeInts w (w.alloc (.cells #[] 3)) zs (.returned (.slice (some ⟨w.heap.size, 0, none⟩) 0 0)) := by
  subst hz; exact ⟨_, 0, rfl, (Below.refl _ _).alloc (Nat.le_refl _) _, World.ownsRow_lit w #[] 0 (Nat.le_refl _) (by unfold maxLen; omega) rfl⟩

end Go.Proofs.YtldnpfkgehgfpaaDoor
