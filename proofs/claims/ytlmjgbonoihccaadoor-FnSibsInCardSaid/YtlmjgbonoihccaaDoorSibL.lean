
/-
  Contract of lvSib: are two versions the same?
-/
import Derived.Test.YtlmjgbonoihccaaDoorSibMem
namespace Go.Proofs.YtlmjgbonoihccaaDoor
open Go.RowKit Go.PlainAid

set_option maxRecDepth 100000 in
theorem lvSib_any (A B : Option Addr) (n m c d : Nat) (xs ys : List Int) (g g' : Bool) (t u : ByteArray) (w : World) (h1 : Has w A n xs) (h2 : Has w B m ys) (hn : n ≤ maxLen) :
    Calls Tryd.prog 59 #[.agg #[.slice A n c, .bool g, .string t], .agg #[.slice B m d, .bool g', .string u]] w fun e w' => e = .returned (.bool (decide (xs = ys) && (g == g') && (t.toList == u.toList))) ∧ Below w.heap.size w w' := by
  have hW := Lib.hid ((bel_alloc w (.cells #[.slice A n c, .bool g, .string t] 31)).alloc (by simp) (.cells #[.slice B m d, .bool g', .string u] 31))
  have H1 := Lib.hid (h1.step hW.out)
  have H2 := Lib.hid (h2.step hW.out)
  clear h1 h2
  obtain ⟨z, hz⟩ : ∃ z, (t.toList == u.toList) = z := ⟨_, rfl⟩
  obtain ⟨y, hy⟩ : ∃ y, decide (xs = ys) = y := ⟨_, rfl⟩
  go_enter Tryd.func59, Tryd.ntmps59
  go_wp2_with fail
  refine (lvInts_any A B n m c d xs ys _ _ _ _ _ H1.out H2.out hn).mono ?_
  rintro e w' ⟨rfl, q, rfl⟩
  cases y <;> cases g <;> cases g' <;> cases z
  all_goals go_wp2
  all_goals go_ret
  all_goals exact ⟨ret_bool (by simp [hy, hz]), bel_drewN hW.out _⟩

end Go.Proofs.YtlmjgbonoihccaaDoor
