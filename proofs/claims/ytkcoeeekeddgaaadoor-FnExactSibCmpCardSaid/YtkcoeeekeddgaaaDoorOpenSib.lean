
/-
  A version that came in as an argument: what its reading tells of memory.
-/
import Derived.Test.YtkcoeeekeddgaaaDoorSibMem
import Derived.Lib.SmallJoins
namespace Go.Proofs.YtkcoeeekeddgaaaDoor
open Go.RowKit Go.ChangeShapes Go.WideShapes Go.ChangeAt Go.Joins

set_option maxRecDepth 100000 in
theorem open_sib {H : Type} {enc : TypeId × Value → H} {W : World} {base b0 : Nat} {held : Bool} {v : Value} {d : DataW H} {p : List MemPlace} (hv : Value.okWide Tryd.prog W .any b0 28 v)
    (h : DataW.Trod enc Tryd.prog W base (fun _ => true) held 28 v d p) :
    ∃ (A : Option Addr) (n c : Nat) (xs : List Int) (g : Bool) (t : ByteArray), v = .agg #[.slice A n c, .bool g, .string t] ∧ Has W A n xs ∧ n ≤ maxLen ∧ t.size ≤ maxLen := by
  obtain ⟨v0, v1, v2, y0, y1, y2, m, rfl, _, _, h0, h1, h2⟩ := open_agg3 Tryd.underlying28 (by kernel_rfl) (by kernel_rfl) hv h
  obtain ⟨b, e1, _⟩ := DataW.trod_bool Tryd.underlying4 h1
  obtain ⟨t, e2, _, ht⟩ := DataW.trod_string Tryd.underlying9 h2
  simp only [List.cons.injEq, and_true] at e1 e2
  subst e1 e2
  rcases open_ints Tryd.underlying22 Tryd.underlying3 (by kernel_rfl) h0 with ⟨e0, _⟩ | ⟨x, l, c, zs, e0, _, hl, hm, hz, _, hcell, hwz⟩
  · simp only [List.cons.injEq, and_true] at e0
    subst e0
    exact ⟨none, 0, 0, [], b, t, rfl, Ints.nil _ _ _ _, Nat.zero_le _, ht⟩
  · simp only [List.cons.injEq, and_true] at e0
    subst e0
    have hr := ints_of_row (w := W) (a := some x) (len := l) (cap := c) (zs := zs) (.inr ⟨x, rfl, hl, hm, by simpa using hz, hcell, hwz⟩)
    exact ⟨some x, l, c, zs.take l, b, t, rfl, hr.1, hr.2, ht⟩

end Go.Proofs.YtkcoeeekeddgaaaDoor
