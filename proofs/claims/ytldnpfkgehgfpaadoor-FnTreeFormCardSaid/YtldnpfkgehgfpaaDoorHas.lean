
/-
  The contracts of the functions on counts in one form: what was there reads as before, and the result is a list of integers.
-/
import Derived.Test.YtldnpfkgehgfpaaDoorDrawC
namespace Go.Proofs.YtldnpfkgehgfpaaDoor
open Go.RowKit

/-- The slice reads as the list. -/
def Has (w : World) (A : Option Addr) (n : Nat) (xs : List Int) : Prop := Ints w 0 w.heap.size A n xs
theorem Has.step {w w' : World} {A : Option Addr} {n : Nat} {xs : List Int} (h : Has w A n xs) (hb : Below w.heap.size w w') : Has w' A n xs := (h.below hb (Nat.le_refl _)).wide (Nat.le_refl _) hb.size
theorem Has.len {w : World} {A : Option Addr} {n : Nat} {xs : List Int} (h : Has w A n xs) : xs.length = n := Ints.len h
theorem Has.of {w : World} {lo hi : Nat} {A : Option Addr} {n : Nat} {xs : List Int} (h : Ints w lo hi A n xs) (hi' : hi ≤ w.heap.size) : Has w A n xs := h.wide (Nat.zero_le _) hi'
theorem Has.own {w : World} {A : Option Addr} {n c base : Nat} {xs : List Int} (h : w.ownsRow base 3 1 (.slice A n c) n (xs.map (Value.int .i64))) : Has w A n xs := Ints.own h (Nat.zero_le _) (Nat.le_refl _)

section
variable {w : World} {A B : Option Addr} {n m c d : Nat} {xs ys : List Int}
theorem bel_of_eq {w w' : World} (h : w = w') : Below w.heap.size w w' := by subst h; exact Below.refl _ _
theorem bel_of_drew {w w' : World} (h : ∃ q, w.drewN q = w') : Below w.heap.size w w' := by obtain ⟨q, rfl⟩ := h; exact bel_drewN (Below.refl _ _) q

theorem sVvOk_h (h : Has w A n xs) (hn : n ≤ maxLen) : Calls Tryd.prog 31 #[.slice A n c] w fun e w' => e = .returned (.bool (vvOk xs)) ∧ Below w.heap.size w w' :=
  (sVvOk_any A n c xs w _ _ h hn).mono fun _ _ ⟨he, hw⟩ => ⟨he, bel_of_eq hw⟩
end

/-- Three numbers in a new block. -/
theorem Has.three (w : World) (x0 x1 x2 : Int) : Has (w.alloc (.cells #[.int .i64 x0, .int .i64 x1, .int .i64 x2] 3)) (some ⟨w.heap.size, 0, none⟩) 3 [x0, x1, x2] :=
  Has.of (Trip.new w x0 x1 x2).ints (by simp)
theorem bel_alloc (w : World) (o : Obj) : Below w.heap.size w (w.alloc o) := (Below.refl _ _).alloc (Nat.le_refl _) o

end Go.Proofs.YtldnpfkgehgfpaaDoor
