
/-
  Contracts of the drawn counts: DrawVvText, DrawVvNext, DrawVvIn, DrawVvJoin.
-/
import Derived.Test.YtldnpfkgehgfpaaDoorDrawB
import Derived.Deep.DeepCutAuto
namespace Go.Proofs.YtldnpfkgehgfpaaDoor
open Go.RowKit

/-- A slice of bytes that came in (a shell's 'IsRow'). -/
def Came (w : World) (A : Option Addr) (n c : Nat) (zs : List Int) : Prop :=
  (A = none ∧ n = 0 ∧ c = 0 ∧ zs = []) ∨ ∃ x, A = some x ∧ n ≤ c ∧ c ≤ maxLen ∧ zs.length = c ∧ (∀ i, i < zs.length → w.cell? (x.add i) = some (.int .u8 (zs.getD i 0))) ∧ ∀ n ∈ zs, (Lit.int .u8 n).wf = true
theorem Came.below {w w' : World} {A : Option Addr} {n c : Nat} {zs : List Int} (h : Came w A n c zs) (hb : Below w.heap.size w w') : Came w' A n c zs := by
  rcases h with h | ⟨x, h1, h2, h3, h4, h5, h6⟩
  · exact .inl h
  · exact .inr ⟨x, h1, h2, h3, h4, fun i hi => by rw [hb.cell (World.block_lt_of_cell? w _ (h5 i hi))]; exact h5 i hi, h6⟩

theorem set_bound {ys : List Int} {k : Nat} {v : Int} (h : ∀ j, 0 ≤ ys.getD j 0 ∧ ys.getD j 0 ≤ 30) (h0 : 0 ≤ v) (h1 : v ≤ 30) : ∀ j, 0 ≤ (ys.set k v).getD j 0 ∧ (ys.set k v).getD j 0 ≤ 30 := by
  intro j
  have := h j
  rw [List.getD_eq_getElem?_getD, List.getElem?_set]
  rw [List.getD_eq_getElem?_getD] at this
  split
  · split
    · simpa using ⟨h0, h1⟩
    · simp
  · exact this

end Go.Proofs.YtldnpfkgehgfpaaDoor
