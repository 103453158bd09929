
/-
  How slices of integers lie in memory, for the walks: a slice that reads as a list, within a range of blocks.
-/
import Derived.WalkKit
import Derived.LoopTactic
import Derived.Lib.Hide
import Derived.Deep.Draws
namespace Go.Proofs.YtldnpfkgehgfpaaDoor
open Go.RowKit

/-- What lies in blocks lo .. hi-1 is the same in both worlds. -/
def Keep (lo hi : Nat) (w w' : World) : Prop := ∀ b, lo ≤ b → b < hi → w'.heap[b]? = w.heap[b]?
theorem Keep.refl (lo hi : Nat) (w : World) : Keep lo hi w w := fun _ _ _ => rfl
theorem Keep.trans {lo hi : Nat} {a b c : World} (h : Keep lo hi a b) (k : Keep lo hi b c) : Keep lo hi a c := fun i h1 h2 => (k i h1 h2).trans (h i h1 h2)
theorem Keep.of_below {B lo hi : Nat} {w w' : World} (h : Below B w w') (hB : hi ≤ B) : Keep lo hi w w' := fun b _ h2 => h.block b (by omega)
theorem Keep.of_grown {lo hi : Nat} {w w' : World} {row : Option Nat} (h : w.grownBy w' row) (hB : hi ≤ w.heap.size) (hr : ∀ g, row = some g → g < lo ∨ hi ≤ g) : Keep lo hi w w' :=
  fun b h1 h2 => h.block b (by omega) (fun e => by have := hr b e.symm; omega)
theorem Keep.mono {lo hi lo' hi' : Nat} {w w' : World} (h : Keep lo hi w w') (h1 : lo ≤ lo') (h2 : hi' ≤ hi) : Keep lo' hi' w w' := fun b a c => h b (by omega) (by omega)

/-- The slice with address A and n elements of 'size' cells each holds the cells xs, in a block between lo and hi. -/
def Row (w : World) (lo hi : Nat) (A : Option Addr) (n size : Nat) (xs : List Value) : Prop :=
  xs.length = n * size ∧ (0 < n → ∃ b off, A = some ⟨b, off, none⟩ ∧ lo ≤ b ∧ b < hi ∧ ∀ j u, xs[j]? = some u → w.cell? ⟨b, off + j, none⟩ = some u)

section
variable {w w' : World} {lo hi lo' hi' n size : Nat} {A : Option Addr} {xs : List Value}
theorem Row.keep (h : Row w lo hi A n size xs) (k : Keep lo hi w w') : Row w' lo hi A n size xs :=
  ⟨h.1, fun hn => by
    obtain ⟨b, off, e, h1, h2, hc⟩ := h.2 hn
    exact ⟨b, off, e, h1, h2, fun j u hu => (World.cell?_of_block (w := w) (w' := w') (a := ⟨b, off + j, none⟩) (k b h1 h2)).trans (hc j u hu)⟩⟩
theorem Row.wide (h : Row w lo hi A n size xs) (h1 : lo' ≤ lo) (h2 : hi ≤ hi') : Row w lo' hi' A n size xs :=
  ⟨h.1, fun hn => by
    obtain ⟨b, off, e, h3, h4, hc⟩ := h.2 hn
    exact ⟨b, off, e, by omega, by omega, hc⟩⟩
theorem Row.below {B : Nat} (h : Row w lo hi A n size xs) (hb : Below B w w') (hB : hi ≤ B) : Row w' lo hi A n size xs := h.keep (.of_below hb hB)
theorem Row.drewN (h : Row w lo hi A n size xs) (k : Nat) : Row (w.drewN k) lo hi A n size xs := h
theorem Row.nil (w : World) (lo hi : Nat) (A : Option Addr) (size : Nat) : Row w lo hi A 0 size [] := ⟨by simp, fun h => absurd h (by omega)⟩
theorem Row.own {base : Nat} {e : TypeId} {c : Nat} (h : w.ownsRow base e size (.slice A n c) n xs) (hlo : lo ≤ base) (hhi : w.heap.size ≤ hi) : Row w lo hi A n size xs := by
  refine ⟨h.1, fun hn => ?_⟩
  rcases h.2 with ⟨h', h0⟩ | ⟨g, cap, cur, hv, hb, hh, _⟩
  · omega
  · have hA : A = some ⟨g, 0, none⟩ := by injection hv
    subst hA
    have hlt : g < w.heap.size := (Array.getElem?_eq_some_iff.1 hh).1
    refine ⟨g, 0, rfl, by omega, by omega, fun j u hu => ?_⟩
    have := h.cells (g := g) rfl j u hu
    have hadd : (⟨g, 0, none⟩ : Addr).add j = ⟨g, 0 + j, none⟩ := by unfold Addr.add; split <;> simp_all
    rw [hadd] at this
    exact this
end

/-- Integers. -/
def Ints (w : World) (lo hi : Nat) (A : Option Addr) (n : Nat) (xs : List Int) : Prop := Row w lo hi A n 1 (xs.map (Value.int .i64))

section
variable {w w' : World} {lo hi lo' hi' n : Nat} {A : Option Addr} {xs : List Int}
theorem Ints.len (h : Ints w lo hi A n xs) : xs.length = n := by have := h.1; simpa using this
theorem Ints.keep (h : Ints w lo hi A n xs) (k : Keep lo hi w w') : Ints w' lo hi A n xs := Row.keep h k
theorem Ints.wide (h : Ints w lo hi A n xs) (h1 : lo' ≤ lo) (h2 : hi ≤ hi') : Ints w lo' hi' A n xs := Row.wide h h1 h2
theorem Ints.below {B : Nat} (h : Ints w lo hi A n xs) (hb : Below B w w') (hB : hi ≤ B) : Ints w' lo hi A n xs := Row.below h hb hB
theorem Ints.nil (w : World) (lo hi : Nat) (A : Option Addr) : Ints w lo hi A 0 [] := Row.nil w lo hi A 1
theorem Ints.at_ (h : Ints w lo hi A n xs) {k : Nat} (hk : k < n) : ∃ b off x, A = some ⟨b, off, none⟩ ∧ lo ≤ b ∧ b < hi ∧ w.cell? ⟨b, off + k, none⟩ = some (.int .i64 x) ∧ Hid (xs.getD k 0 = x) := by
  obtain ⟨b, off, e, h1, h2, hc⟩ := h.2 (by omega)
  have hl := h.len
  refine ⟨b, off, xs.getD k 0, e, h1, h2, hc k _ ?_, rfl⟩
  rw [List.getElem?_map, List.getD_eq_getElem?_getD, List.getElem?_eq_getElem (by omega)]
  rfl
theorem Ints.all (h : Ints w lo hi A n xs) (hn : 0 < n) : ∃ b off, A = some ⟨b, off, none⟩ ∧ lo ≤ b ∧ b < hi ∧ ∀ k, k < n → w.cell? ⟨b, off + k, none⟩ = some (.int .i64 (xs.getD k 0)) := by
  obtain ⟨b, off, e, h1, h2, hc⟩ := h.2 hn
  have hl := h.len
  refine ⟨b, off, e, h1, h2, fun k hk => hc k _ ?_⟩
  rw [List.getElem?_map, List.getD_eq_getElem?_getD, List.getElem?_eq_getElem (by omega)]
  rfl
theorem Ints.own {base : Nat} {e : TypeId} {c : Nat} (h : w.ownsRow base e 1 (.slice A n c) n (xs.map (Value.int .i64))) (hlo : lo ≤ base) (hhi : w.heap.size ≤ hi) : Ints w lo hi A n xs := Row.own h hlo hhi
end

/-- A slice of integers that came in (a shell's 'IsRow'). -/
theorem ints_of_row {w : World} {a : Option Addr} {len cap : Nat} {zs : List Int}
    (h : (a = none ∧ len = 0 ∧ cap = 0 ∧ zs = []) ∨ ∃ x, a = some x ∧ len ≤ cap ∧ cap ≤ maxLen ∧ zs.length = cap ∧ (∀ i, i < zs.length → w.cell? (x.add i) = some (.int .i64 (zs.getD i 0))) ∧ ∀ n ∈ zs, (Lit.int .i64 n).wf = true) :
    Ints w 0 w.heap.size a len (zs.take len) ∧ len ≤ maxLen := by
  rcases h with ⟨rfl, rfl, rfl, rfl⟩ | ⟨x, rfl, hl, hm, hz, hc, _⟩
  · exact ⟨Ints.nil _ _ _ _, by unfold maxLen; omega⟩
  · refine ⟨⟨by simp; omega, fun hn => ?_⟩, by omega⟩
    have h0 := hc 0 (by omega)
    obtain ⟨b, off, spot⟩ := x
    have hspot : spot = none := by simpa [Addr.add] using World.cell?_spot h0
    subst hspot
    have hadd : ∀ j, (⟨b, off, none⟩ : Addr).add j = ⟨b, off + j, none⟩ := by intro j; unfold Addr.add; split <;> simp_all
    rw [hadd] at h0
    refine ⟨b, off, rfl, Nat.zero_le _, World.block_lt_of_cell? w _ h0, fun j u hu => ?_⟩
    rw [List.getElem?_map, List.getElem?_take] at hu
    split at hu
    · have hj : j < zs.length := by omega
      have := hc j hj
      rw [hadd] at this
      rw [this]
      rw [List.getD_eq_getElem?_getD, List.getElem?_eq_getElem hj]
      rw [List.getElem?_eq_getElem hj] at hu
      exact hu
    · simp at hu
theorem bel_drewN {B : Nat} {a w : World} (h : Below B a w) (n : Nat) : Below B a (w.drewN n) := ⟨h.os, h.tape, h.output, h.size, h.block⟩
theorem drew2 (w : World) (a b : Nat) : ∃ q, w.drewN q = (w.drewN a).drewN b := ⟨a + b, (World.drewN_drewN w a b).symm⟩
/-- The end of a call in a form that rewrites: two Booleans that are one. -/
theorem ret_bool {a b : Bool} (h : a = b) : Ending.returned (.bool a) = .returned (.bool b) := by rw [h]
theorem ret_int {k : IntKind} {a b : Int} (h : a = b) : Ending.returned (.int k a) = .returned (.int k b) := by rw [h]

end Go.Proofs.YtldnpfkgehgfpaaDoor
