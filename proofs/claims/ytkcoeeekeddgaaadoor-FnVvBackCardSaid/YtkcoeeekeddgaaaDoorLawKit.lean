
/-
  Plain facts that the laws on counts want.
-/
import Derived.Test.YtkcoeeekeddgaaaDoorHas
namespace Go.Proofs.YtkcoeeekeddgaaaDoor
open Go.RowKit

theorem Came.step {w w' : World} {A : Option Addr} {n c : Nat} {zs : List Int} (h : Came w A n c zs) (hb : Below w.heap.size w w') : Came w' A n c zs := h.below hb
theorem vvJoinOk_le (xs ys : List Int) : (vvJoinOk xs ys).length ≤ 3 := by
  unfold vvJoinOk
  split
  · rename_i h
    simp only [Bool.and_eq_true] at h
    rw [vvJoin_len (by rw [vvOk_len h.1, vvOk_len h.2]), vvOk_len h.1]
    exact Nat.le_refl _
  · simp
theorem vvJoin3 (a b c x y z : Int) : vvJoin [a, b, c] [x, y, z] = [max a x, max b y, max c z] := rfl
theorem joinOk_yes {x y : List Int} (hx : vvOk x = true) (hy : vvOk y = true) : vvJoinOk x y = vvJoin x y := by simp [vvJoinOk, hx, hy]
theorem vvOk_join {x y : List Int} (hx : vvOk x = true) (hy : vvOk y = true) : vvOk (vvJoin x y) = true := by
  obtain ⟨a, b, c, rfl, _⟩ := vvOk_form hx
  obtain ⟨a', b', c', rfl, _⟩ := vvOk_form hy
  rw [vvJoin3]
  exact vvOk_mk (by omega)
theorem joinOk_three {x y z : List Int} (hx : vvOk x = true) (hy : vvOk y = true) (hz : vvOk z = true) : vvJoinOk (vvJoinOk x y) z = vvJoinOk x (vvJoinOk y z) := by
  rw [joinOk_yes hx hy, joinOk_yes hy hz, joinOk_yes (vvOk_join hx hy) hz, joinOk_yes hx (vvOk_join hy hz)]
  obtain ⟨a, b, c, rfl, _⟩ := vvOk_form hx
  obtain ⟨a', b', c', rfl, _⟩ := vvOk_form hy
  obtain ⟨a'', b'', c'', rfl, _⟩ := vvOk_form hz
  simp only [vvJoin3]
  congr 1
  · omega
  · congr 1
    · omega
    · congr 1
      omega
theorem vvJoin_comm {x y : List Int} (hx : vvOk x = true) (hy : vvOk y = true) : vvJoin x y = vvJoin y x := by
  obtain ⟨a, b, c, rfl, _⟩ := vvOk_form hx
  obtain ⟨a', b', c', rfl, _⟩ := vvOk_form hy
  simp only [vvJoin3]
  congr 1
  · omega
  · congr 1
    · omega
    · congr 1
      omega
theorem vvJoin_self {x : List Int} (hx : vvOk x = true) : vvJoin x x = x := by
  obtain ⟨a, b, c, rfl, _⟩ := vvOk_form hx
  simp only [vvJoin3]
  congr 1
  · omega
  · congr 1
    · omega
    · congr 1
      omega

end Go.Proofs.YtkcoeeekeddgaaaDoor
