
/-
  Contracts of VvNext (the program's and the reference's), markIntS and heldIntS; lists of integers that a call has made (OwnInts).
-/
import Derived.Test.YtldnpfkgehgfpaaDoorVvD
namespace Go.Proofs.YtldnpfkgehgfpaaDoor
open Go.RowKit

/-- A slice of integers that a call has made, in a block of its own from lo on and below hi. -/
def OwnInts (w : World) (lo hi : Nat) (A : Option Addr) (n c : Nat) (xs : List Int) : Prop :=
  w.ownsRow lo 3 1 (.slice A n c) n (xs.map (Value.int .i64)) ∧ ∀ g, (Value.slice A n c).ownBlock = some g → g < hi

section
variable {w w' : World} {lo hi lo' hi' n c : Nat} {A : Option Addr} {xs : List Int}
theorem OwnInts.of {base : Nat} (h : w.ownsRow base 3 1 (.slice A n c) n (xs.map (Value.int .i64))) (h1 : w.heap.size ≤ hi) : OwnInts w base hi A n c xs :=
  ⟨h, fun g hg => by have := (h.lt g hg).2; omega⟩
theorem OwnInts.len (h : OwnInts w lo hi A n c xs) : xs.length = n := by have := h.1.1; simpa using this
theorem OwnInts.ints (h : OwnInts w lo hi A n c xs) : Ints w lo hi A n xs := by
  refine ⟨by have := h.1.1; simpa using this, fun hn => ?_⟩
  obtain ⟨g, cap, hv, hb, hlt⟩ := h.1.form hn
  have hA : A = some ⟨g, 0, none⟩ := by injection hv
  subst hA
  have hg := h.2 g rfl
  refine ⟨g, 0, rfl, hb, hg, fun j u hu => ?_⟩
  have hc := h.1.cells (g := g) rfl j u hu
  have hadd : (⟨g, 0, none⟩ : Addr).add j = ⟨g, 0 + j, none⟩ := by unfold Addr.add; split <;> simp_all
  rw [hadd] at hc
  exact hc
theorem OwnInts.keep (h : OwnInts w lo hi A n c xs) (k : Keep lo hi w w') : OwnInts w' lo hi A n c xs := by
  refine ⟨⟨h.1.1, ?_⟩, h.2⟩
  rcases h.1.2 with h2 | ⟨g, cap, cur, hv, hb, hh, rest⟩
  · exact .inl h2
  · have hg := h.2 g (by rw [hv]; rfl)
    exact .inr ⟨g, cap, cur, hv, hb, by rw [k g hb hg]; exact hh, rest⟩
theorem OwnInts.below {B : Nat} (h : OwnInts w lo hi A n c xs) (hb : Below B w w') (hB : hi ≤ B) : OwnInts w' lo hi A n c xs := h.keep (.of_below hb hB)
theorem OwnInts.head (h : OwnInts w lo hi A n c xs) (hn : 0 < n) : ∃ g, A = some ⟨g, 0, none⟩ ∧ lo ≤ g ∧ g < hi := by
  obtain ⟨g, cap, hv, hb, hlt⟩ := h.1.form hn
  have hA : A = some ⟨g, 0, none⟩ := by injection hv
  subst hA
  exact ⟨g, rfl, hb, h.2 g rfl⟩
end
theorem own_cell {w : World} {lo hi g n c : Nat} {xs : List Int} (h : OwnInts w lo hi (some ⟨g, 0, none⟩) n c xs) {k : Nat} (hk : k < n) : w.cell? ⟨g, k, none⟩ = some (.int .i64 (xs.getD k 0)) := by
  obtain ⟨h1, _⟩ := h
  have hl : xs.length = n := by have := h1.1; simpa using this
  rcases h1.2 with ⟨hv, _⟩ | ⟨g', cap, cur, hv, _, hh, _⟩
  · simp at hv
  · have hc := h1.cells (g := g) rfl k (.int .i64 (xs.getD k 0)) (by rw [List.getElem?_map, List.getD_eq_getElem?_getD, List.getElem?_eq_getElem (by omega)]; rfl)
    have hadd : (⟨g, 0, none⟩ : Addr).add k = ⟨g, k, none⟩ := by unfold Addr.add; split <;> simp_all
    rw [hadd] at hc
    exact hc
theorem own_free {w : World} {lo hi g n c : Nat} {xs : List Int} (h : OwnInts w lo hi (some ⟨g, 0, none⟩) n c xs) (k : Nat) : w.frozen? ⟨g, k, none⟩ = false := by
  rcases h.1.2 with ⟨hv, _⟩ | ⟨g', cap, cur, hv, _, hh, _⟩
  · simp at hv
  · simp only [Value.slice.injEq, Option.some.injEq, Addr.mk.injEq, and_true] at hv
    obtain ⟨rfl, _⟩ := hv
    exact frozen_of_row w _ k cur _ hh
/-- A store into a cell of it. -/
theorem own_set {w : World} {lo hi g n c : Nat} {xs : List Int} (h : OwnInts w lo hi (some ⟨g, 0, none⟩) n c xs) (k : Nat) (x : Int) : OwnInts (w.setCell ⟨g, k, none⟩ (.int .i64 x)) lo hi (some ⟨g, 0, none⟩) n c (xs.set k x) := by
  refine ⟨⟨by have := h.1.1; simpa using this, ?_⟩, h.2⟩
  rcases h.1.2 with ⟨hv, _⟩ | ⟨g', cap, cur, hv, hb, hh, h1, h2, h3, h4⟩
  · simp at hv
  · simp only [Value.slice.injEq, Option.some.injEq, Addr.mk.injEq, and_true] at hv
    obtain ⟨rfl, _, rfl⟩ := hv
    refine .inr ⟨g, c, cur.setIfInBounds k (.int .i64 x), rfl, hb, heap_setCell_same w g k cur _ _ hh, h1, h2, by simpa using h3, ?_⟩
    rw [Array.toList_setIfInBounds, ← List.map_set.symm, List.take_set, h4]

/-- The cells of a slice that is read, as the laws of append ask them. -/
theorem Row.news {w : World} {lo hi b off n size : Nat} {xs : List Value} (h : Row w lo hi (some ⟨b, off, none⟩) n size xs) : ∀ j u, xs[j]? = some u → w.cell? ((⟨b, off, none⟩ : Addr).add j) = some u := by
  intro j u hu
  have hadd : (⟨b, off, none⟩ : Addr).add j = ⟨b, off + j, none⟩ := by unfold Addr.add; split <;> simp_all
  rw [hadd]
  rcases Nat.eq_zero_or_pos n with h0 | h0
  · have := h.1
    subst h0
    have : xs = [] := List.eq_nil_of_length_eq_zero (by simpa using this)
    subst this
    simp at hu
  · obtain ⟨b', off', e, _, _, hc⟩ := h.2 h0
    simp only [Option.some.injEq, Addr.mk.injEq, and_true] at e
    obtain ⟨rfl, rfl⟩ := e
    exact hc j u hu
theorem oneInts (xs : List Int) : ∀ u ∈ xs.map (Value.int .i64), u.oneCell' = true := by
  intro u hu
  obtain ⟨x, _, rfl⟩ := List.mem_map.1 hu
  rfl

def nextOk (xs : List Int) (s : Int) : Bool := vvOk xs && (decide (1 ≤ s) && decide (s ≤ 3)) && decide (xs.getD (s - 1).toNat 0 < 30)
def vvNext (xs : List Int) (s : Int) : List Int := if nextOk xs s then xs.set (s - 1).toNat (xs.getD (s - 1).toNat 0 + 1) else []

/-- What VvNext returns: the list and whether it is one. -/
def MadeNext (w w' : World) (xs : List Int) (s : Int) (e : Ending) : Prop :=
  ∃ A' c', e = .returned (.tuple #[.slice A' (vvNext xs s).length c', .bool (nextOk xs s)]) ∧ Below w.heap.size w w' ∧ w'.ownsRow w.heap.size 3 1 (.slice A' (vvNext xs s).length c') (vvNext xs s).length ((vvNext xs s).map (Value.int .i64))
theorem MadeNext.no_nil (w : World) {xs : List Int} {s : Int} (h : nextOk xs s = false) : MadeNext w w xs s (.returned (.tuple #[.slice none 0 0, .bool false])) := by
  have e : vvNext xs s = [] := by simp [vvNext, h]
  unfold MadeNext
  rw [e, h]
  exact ⟨none, 0, rfl, Below.refl _ _, World.ownsRow_nil _ _ _ _⟩
theorem MadeNext.no_empty (w : World) {xs : List Int} {s : Int} (h : nextOk xs s = false) : MadeNext w (w.alloc (.cells #[] 3)) xs s (.returned (.tuple #[.slice (some ⟨w.heap.size, 0, none⟩) 0 0, .bool false])) := by
  have e : vvNext xs s = [] := by simp [vvNext, h]
  unfold MadeNext
  rw [e, h]
  exact ⟨_, 0, rfl, (Below.refl _ _).alloc (Nat.le_refl _) _, World.ownsRow_lit w #[] 0 (Nat.le_refl _) (by unfold maxLen; omega) rfl⟩
theorem MadeNext.yes {w w' : World} {xs : List Int} {s : Int} {A' : Option Addr} {c' : Nat} (h : nextOk xs s = true) (hb : Below w.heap.size w w') (hl : xs.length = 3)
    (ho : w'.ownsRow w.heap.size 3 1 (.slice A' 3 c') 3 ((xs.set (s - 1).toNat (xs.getD (s - 1).toNat 0 + 1)).map (Value.int .i64))) : MadeNext w w' xs s (.returned (.tuple #[.slice A' 3 c', .bool true])) := by
  have e : vvNext xs s = xs.set (s - 1).toNat (xs.getD (s - 1).toNat 0 + 1) := by simp [vvNext, h]
  have e3 : (xs.set (s - 1).toNat (xs.getD (s - 1).toNat 0 + 1)).length = 3 := by simpa using hl
  unfold MadeNext
  rw [e, h, e3]
  exact ⟨A', c', rfl, hb, ho⟩

/-- Nothing but blocks lo .. hi-1 has turned, and nothing new has come. -/
structure Inside (lo hi : Nat) (w w' : World) : Prop where
  os : w'.os = w.os
  tape : w'.tape = w.tape
  output : w'.output = w.output
  size : w'.heap.size = w.heap.size
  block : ∀ b, b < lo ∨ hi ≤ b → w'.heap[b]? = w.heap[b]?
theorem Inside.refl (lo hi : Nat) (w : World) : Inside lo hi w w := ⟨rfl, rfl, rfl, rfl, fun _ _ => rfl⟩
theorem Inside.setCell {lo hi : Nat} {a w : World} (h : Inside lo hi a w) {p : Addr} (h1 : lo ≤ p.block) (h2 : p.block < hi) (u : Value) : Inside lo hi a (w.setCell p u) :=
  ⟨h.os, h.tape, h.output, by rw [← h.size]; simp [World.setCell], fun b hb => (Below.heap_setCell _ _ _ _ (by omega)).trans (h.block b hb)⟩
theorem Inside.below {lo hi B : Nat} {w w' : World} (h : Inside lo hi w w') (hB : B ≤ lo) : Below B w w' := ⟨h.os, h.tape, h.output, by rw [h.size]; exact Nat.le_refl _, fun k hk => h.block k (by omega)⟩
theorem Inside.keep {lo hi lo' hi' : Nat} {w w' : World} (h : Inside lo hi w w') (h1 : hi' ≤ lo ∨ hi ≤ lo') : Keep lo' hi' w w' := fun b h2 h3 => h.block b (by omega)

/-- n numbers from k on. -/
def marks (k : Int) (n : Nat) : List Int := (List.range n).map fun (j : Nat) => k + (j : Int)
theorem marks_len (k : Int) (n : Nat) : (marks k n).length = n := by simp [marks]
theorem marks_at (k : Int) {n j : Nat} (h : j < n) : (marks k n).getD j 0 = k + (j : Int) := by
  simp [marks, List.getD_eq_getElem?_getD, h]
def markTo (xs : List Int) (k : Int) (j : Nat) : List Int := marks k j ++ xs.drop j
theorem markTo_all {xs : List Int} {n : Nat} (k : Int) (h : xs.length = n) : markTo xs k n = marks k n := by simp [markTo, List.drop_of_length_le, h]
theorem markTo_set {xs : List Int} {j : Nat} (k : Int) (h : j < xs.length) : (markTo xs k j).set j (k + (j : Int)) = markTo xs k (j + 1) := by
  have e : marks k (j + 1) = marks k j ++ [k + (j : Int)] := by simp [marks, List.range_succ]
  unfold markTo
  rw [e, List.set_append_right _ _ (by rw [marks_len]; exact Nat.le_refl _), marks_len, Nat.sub_self, List.drop_eq_getElem_cons h, List.set_cons_zero, List.append_assoc]
  rfl

end Go.Proofs.YtldnpfkgehgfpaaDoor
