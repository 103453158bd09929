
/-
  Contracts of the drawn trees: l71Tree, DrawTreeOk.
-/
import Derived.Test.YtldnpfkgehgfpaaDoorTreeA
import Derived.Test.YtldnpfkgehgfpaaDoorDrawL
import Derived.Test.YtldnpfkgehgfpaaDoorSibsD
namespace Go.Proofs.YtldnpfkgehgfpaaDoor
open Go.RowKit Go.PlainAid

/-- A tree that was drawn: its row is the call's own; no list of a file lies in it. -/
structure DrawF (g : Nat) (w w' : World) (gg c : Nat) (fs : List Kf) : Prop where
  gro : Gro g w w'
  row : w'.ownsRow w.heap.size 29 2 (.slice (some ⟨gg, 0, none⟩) fs.length c) fs.length (flatF fs)
  ok : ∀ f ∈ fs, ∃ lo hi, g < lo ∧ hi ≤ w'.heap.size ∧ (gg < lo ∨ hi ≤ gg) ∧ f.Ok w' lo hi
section
variable {g gg c : Nat} {w w1 w2 : World} {fs : List Kf}
theorem DrawF.go (h : DrawF g w w1 gg c fs) (hG : Gro g w1 w2) (hg : g < w.heap.size) : DrawF g w w2 gg c fs := by
  refine ⟨h.gro.trans hG, row_keep h.row fun q hq => hG.block q (h.row.lt q hq).2 (by have := (h.row.lt q hq).1; omega), fun f hf => ?_⟩
  obtain ⟨lo, hi, h1, h2, h3, h4⟩ := h.ok f hf
  exact ⟨lo, hi, h1, Nat.le_trans h2 hG.size, h3, h4.keep (hG.keep (.inl h1) h2)⟩
theorem DrawF.below (h : DrawF g w w1 gg c fs) (hb : Below w1.heap.size w1 w2) (hg : g < w.heap.size) : DrawF g w w2 gg c fs := h.go (.of_below hb) hg
/-- One more behind it. -/
theorem DrawF.more {w3 w8 : World} {g8 c8 : Nat} {f : Kf} {lo hi : Nat} (h : DrawF g w w3 gg c fs) (hf : f.Ok w3 lo hi) (hlo : g < lo) (hhi : hi ≤ w3.heap.size) (hgg : gg < lo ∨ hi ≤ gg) (ho : w8.ownsRow w.heap.size 29 2 (.slice (some ⟨g8, 0, none⟩) (fs.length + 1) c8) (fs.length + 1) (flatF (fs ++ [f])))
    (hb : Below w.heap.size w3 w8) (hs8 : w3.heap.size ≤ w8.heap.size) (hat : gg = g8 ∨ w3.heap.size < g8) (hfr : ∀ q, q < w3.heap.size → gg ≠ q → w8.heap[q]? = w3.heap[q]?) : DrawF g w w8 g8 c8 (fs ++ [f]) := by
  have e : (fs ++ [f]).length = fs.length + 1 := by simp
  refine ⟨⟨hb.os.trans h.gro.os, hb.tape.trans h.gro.tape, hb.output.trans h.gro.output, Nat.le_trans h.gro.size hs8, fun q hq hne => (hb.block q hq).trans (h.gro.block q hq hne)⟩, by rw [e]; exact ho, fun x hx => ?_⟩
  have hk : ∀ lo hi, hi ≤ w3.heap.size → (gg < lo ∨ hi ≤ gg) → Keep lo hi w3 w8 := fun lo hi h2 h3 q hq1 hq2 => hfr q (by omega) (by omega)
  rcases List.mem_append.1 hx with hx | hx
  · obtain ⟨lo, hi, h1, h2, h3, h4⟩ := h.ok x hx
    exact ⟨lo, hi, h1, Nat.le_trans h2 hs8, by rcases hat with h' | h' <;> omega, h4.keep (hk lo hi h2 h3)⟩
  · rw [List.mem_singleton] at hx
    subst hx
    exact ⟨lo, hi, hlo, Nat.le_trans hhi hs8, by rcases hat with h' | h' <;> omega, hf.keep (hk lo hi hhi hgg)⟩
theorem DrawF.has (h : DrawF g w w1 gg c fs) : HasF w1 (some ⟨gg, 0, none⟩) fs.length fs := hasF_row h.row fun f hf => by
  obtain ⟨lo, hi, h1, h2, h3, h4⟩ := h.ok f hf
  exact h4.wide (Nat.zero_le _) h2
end
/-- A list that was drawn, as a file's. -/
theorem DrawL.file {g gg c : Nat} {w w1 : World} {ks : List Kv} (h : DrawL g w w1 gg c ks) (hl : ks.length ≤ 1000) (t : ByteArray) (ht : t.size ≤ 1000) : (⟨t, some ⟨gg, 0, none⟩, ks.length, c, ks⟩ : Kf).Ok w1 w.heap.size w1.heap.size :=
  ⟨⟨Row.own h.row (Nat.le_refl _) (Nat.le_refl _), h.ok⟩, hl, ht⟩

end Go.Proofs.YtldnpfkgehgfpaaDoor
