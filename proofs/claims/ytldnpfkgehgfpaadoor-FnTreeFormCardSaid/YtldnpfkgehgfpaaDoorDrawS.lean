
/-
  Contracts of the drawn versions: of, l71Text, l71Sib, DrawSibOk, DrawSibCmp.
-/
import Derived.Test.YtldnpfkgehgfpaaDoorSibMem
namespace Go.Proofs.YtldnpfkgehgfpaaDoor
open Go.RowKit Go.PlainAid

section
variable {a w w' : World} {g p lo hi n : Nat} {A : Option Addr} {xs : List Int} {q : Addr} {u : Value}
theorem Rd.set (h : Rd w g p) (hq : g < q.block) : Rd (w.setCell q u) g p := h.keep fun b hb => Below.heap_setCell w q u b (by omega)
theorem Gro.set (h : Gro g a w) (hq : a.heap.size ≤ q.block) : Gro g a (w.setCell q u) :=
  ⟨h.os, h.tape, h.output, by simpa [World.setCell] using h.size, fun i hi hn => (Below.heap_setCell w q u i (by omega)).trans (h.block i hi hn)⟩
theorem Ints.set (h : Ints w lo hi A n xs) (hq : q.block < lo ∨ hi ≤ q.block) : Ints (w.setCell q u) lo hi A n xs := h.keep fun b h1 h2 => Below.heap_setCell w q u b (by omega)
theorem setCell_size : (w.setCell q u).heap.size = w.heap.size := by simp [World.setCell]
end

/-- A slice of short texts, new. -/
def Strs (w : World) (b n : Nat) : Prop := ∀ k, k < n → ∃ t : ByteArray, w.cell? ⟨b, k, none⟩ = some (.string t) ∧ t.size ≤ 4
theorem Strs.gro {w w' : World} {g b n : Nat} (h : Strs w b n) (k : Gro g w w') (hb : b < w.heap.size) (hg : b ≠ g) : Strs w' b n := fun j hj => by
  obtain ⟨t, h1, h2⟩ := h j hj
  exact ⟨t, (World.cell?_of_block (w := w) (w' := w') (a := ⟨b, j, none⟩) (k.block b hb hg)).trans h1, h2⟩

set_option maxRecDepth 100000 in
theorem of_any (g p b n c : Nat) (w : World) (h : Rd w g p) (hS : Strs w b n) (hb : b < w.heap.size) (hbg : b ≠ g) (hn : 1 ≤ n) (hn2 : n ≤ 1000) (hp : p ≤ 900000) :
    Calls Tryd.prog 11 #[.pointer (some ⟨g, 0, none⟩), .slice (some ⟨b, 0, none⟩) n c] w fun e w' => ∃ t : ByteArray, e = .returned (.string t) ∧ t.size ≤ 4 ∧ Gro g w w' ∧ Rd w' g (p + 1) := by
  have H := Lib.hid h
  have S := Lib.hid hS
  clear h hS
  go_enter Tryd.func11, Tryd.ntmps11
  go_wp2_with fail
  refine (pick_any g p n _ H.out (by omega) (by omega) (by omega)).mono ?_
  rintro e w1 ⟨v, rfl, hv, hG, hR⟩
  have hv' : v < n := by omega
  obtain ⟨t, ht, hs⟩ := (S.out.gro hG hb hbg) v hv'
  have G1 := Lib.hid hG
  have R1 := Lib.hid hR
  clear hG hR
  go_wp2
  go_ret
  exact ⟨t, rfl, hs, G1.out, R1.out⟩

theorem strs4 (w : World) (t0 t1 t2 t3 : ByteArray) (h0 : t0.size ≤ 4) (h1 : t1.size ≤ 4) (h2 : t2.size ≤ 4) (h3 : t3.size ≤ 4) : Strs (w.alloc (.cells #[.string t0, .string t1, .string t2, .string t3] 9)) w.heap.size 4 := by
  have hh := heap_alloc_new w (.cells #[.string t0, .string t1, .string t2, .string t3] 9)
  generalize w.alloc (.cells #[.string t0, .string t1, .string t2, .string t3] 9) = W at hh ⊢
  intro k hk
  match k, hk with
  | 0, _ => exact ⟨t0, by simp [World.cell?, hh], h0⟩
  | 1, _ => exact ⟨t1, by simp [World.cell?, hh], h1⟩
  | 2, _ => exact ⟨t2, by simp [World.cell?, hh], h2⟩
  | 3, _ => exact ⟨t3, by simp [World.cell?, hh], h3⟩
theorem strs3 (w : World) (t0 t1 t2 : ByteArray) (h0 : t0.size ≤ 4) (h1 : t1.size ≤ 4) (h2 : t2.size ≤ 4) : Strs (w.alloc (.cells #[.string t0, .string t1, .string t2] 9)) w.heap.size 3 := by
  have hh := heap_alloc_new w (.cells #[.string t0, .string t1, .string t2] 9)
  generalize w.alloc (.cells #[.string t0, .string t1, .string t2] 9) = W at hh ⊢
  intro k hk
  match k, hk with
  | 0, _ => exact ⟨t0, by simp [World.cell?, hh], h0⟩
  | 1, _ => exact ⟨t1, by simp [World.cell?, hh], h1⟩
  | 2, _ => exact ⟨t2, by simp [World.cell?, hh], h2⟩

set_option maxRecDepth 100000 in
theorem l71Text_any (g p : Nat) (w : World) (h : Rd w g p) (hp : p ≤ 800000) :
    Calls Tryd.prog 30 #[.pointer (some ⟨g, 0, none⟩)] w fun e w' => ∃ t : ByteArray, e = .returned (.string t) ∧ t.size ≤ 16 ∧ Gro g w w' ∧ ∃ p', p' ≤ p + 6 ∧ Rd w' g p' := by
  have H := Lib.hid h
  have hg := h.lt
  clear h
  go_enter Tryd.func30, Tryd.ntmps30
  go_wp2_with fail
  refine (pick_any g p 4 _ H.out (by omega) (by omega) (by omega)).mono ?_
  rintro e w1 ⟨v1, rfl, hv1, hG, hR⟩
  have G1 := Lib.hid hG
  have R1 := Lib.hid hR
  clear hG hR
  go_wp2_with fail
  go_loopw [3, 4] (fun s i wr => ∃ (k p1 : Nat) (t : ByteArray), i = .int .i64 k ∧ k ≤ 3 ∧ s = .string t ∧ t.size + 4 * k ≤ 12 ∧ p1 + k ≤ p + 4 ∧ Hid (Gro g w wr) ∧ Hid (Rd wr g p1)) (fun _ i _ => (intOf i).toNat)
  case atStart => exact ⟨v1, p + 1, ⟨#[]⟩, rfl, by omega, rfl, (by show 0 + 4 * v1 ≤ 12; omega), by omega, G1.out, R1.out⟩
  case round =>
    obtain ⟨k, p1, t, rfl, hk, rfl, ht, hp1, HG, HR⟩ := hrel
    have hgw := HG.out.size
    by_cases hk0 : 0 < k
    · go_wp2_with fail
      refine (of_any g p1 wr.heap.size 4 4 _ (HR.out.below (bel_alloc _ _)) (strs4 _ _ _ _ _ (by decide) (by decide) (by decide) (by decide)) (by simp) (by omega) (by omega) (by omega) (by omega)).mono ?_
      rintro e w2 ⟨t2, rfl, ht2, hG, hR⟩
      have G2 := Lib.hid ((HG.out.alloc _).trans hG)
      have R2 := Lib.hid hR
      clear hG hR
      have hadd : ¬ (9223372036854775807 : Int) < (t.size : Int) + (t2.size : Int) := by omega
      go_wp2
      go_roundw
      case rel => exact ⟨k - 1, p1 + 1, t ++ t2, by go_num, by omega, rfl, by rw [ByteArray.size_append]; omega, by omega, G2.out, R2.out⟩
      case measure => simp [intOf]; omega
    · obtain rfl : k = 0 := by omega
      go_wp2_with fail
      refine (pick_any g p1 40 _ HR.out (by omega) (by omega) (by omega)).mono ?_
      rintro e w2 ⟨v2, rfl, hv2, hG, hR⟩
      have G2 := Lib.hid (HG.out.trans hG)
      have R2 := Lib.hid hR
      have hs2 := G2.out.size
      clear hG hR
      by_cases hv : v2 = 0
      · subst hv
        go_wp2_with fail
        refine (of_any g (p1 + 1) w2.heap.size 3 3 _ (R2.out.below (bel_alloc _ _)) (strs3 _ _ _ _ (by decide) (by decide) (by decide)) (by simp) (by omega) (by omega) (by omega) (by omega)).mono ?_
        rintro e w3 ⟨t2, rfl, ht2, hG, hR⟩
        have G3 := Lib.hid ((G2.out.alloc _).trans hG)
        have R3 := Lib.hid hR
        clear hG hR
        have hadd : ¬ (9223372036854775807 : Int) < (t.size : Int) + (t2.size : Int) := by omega
        go_wp2
        go_ret
        exact ⟨t ++ t2, rfl, by rw [ByteArray.size_append]; omega, G3.out, _, by omega, R3.out⟩
      · go_wp2
        go_ret
        exact ⟨t, rfl, by omega, G2.out, _, by omega, R2.out⟩

/-- A version that was drawn. -/
def DrawnSib (w w' : World) (g p more : Nat) (e : Ending) : Prop :=
  ∃ (A : Option Addr) (n c : Nat) (xs : List Int) (b : Bool) (t : ByteArray), e = .returned (.agg #[.slice A n c, .bool b, .string t]) ∧ n ≤ 3 ∧ t.size ≤ 16 ∧ Gro g w w' ∧ Ints w' w.heap.size w'.heap.size A n xs ∧ ∃ p', p' ≤ p + more ∧ Rd w' g p'

end Go.Proofs.YtldnpfkgehgfpaaDoor
