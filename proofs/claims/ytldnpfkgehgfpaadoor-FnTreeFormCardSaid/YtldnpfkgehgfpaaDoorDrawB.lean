
/-
  Contracts of the drawn counts: l71Vv, DrawVvOk, DrawVvNext, DrawVvIn, DrawVvJoin.
-/
import Derived.Test.YtldnpfkgehgfpaaDoorDrawA
namespace Go.Proofs.YtldnpfkgehgfpaaDoor
open Go.RowKit

/-- Block b holds three integers, and no more. -/
def Trip (w : World) (b : Nat) (x0 x1 x2 : Int) : Prop := w.heap[b]? = some (.cells #[.int .i64 x0, .int .i64 x1, .int .i64 x2] 3 (0, 0))
section
variable {w w' : World} {b : Nat} {x0 x1 x2 : Int}
theorem Trip.lt (h : Trip w b x0 x1 x2) : b < w.heap.size := (Array.getElem?_eq_some_iff.1 h).1
theorem Trip.new (w : World) (x0 x1 x2 : Int) : Trip (w.alloc (.cells #[.int .i64 x0, .int .i64 x1, .int .i64 x2] 3)) w.heap.size x0 x1 x2 := heap_alloc_new w _
theorem Trip.gro {g : Nat} (h : Trip w b x0 x1 x2) (k : Gro g w w') (hb : b ≠ g) : Trip w' b x0 x1 x2 := (k.block b h.lt hb).trans h
theorem Trip.alloc (h : Trip w b x0 x1 x2) (o : Obj) : Trip (w.alloc o) b x0 x1 x2 := (Below.heap_alloc w o b h.lt).trans h
theorem Trip.at_ (h : Trip w b x0 x1 x2) {k : Nat} (hk : k < 3) : ∃ x, w.cell? ⟨b, k, none⟩ = some (.int .i64 x) := by
  unfold Trip at h
  match k, hk with
  | 0, _ => exact ⟨x0, by simp [World.cell?, h]⟩
  | 1, _ => exact ⟨x1, by simp [World.cell?, h]⟩
  | 2, _ => exact ⟨x2, by simp [World.cell?, h]⟩
theorem Trip.free (h : Trip w b x0 x1 x2) (k : Nat) : w.frozen? ⟨b, k, none⟩ = false := by
  unfold Trip at h
  simp [World.frozen?, h]
theorem Trip.set_ (h : Trip w b x0 x1 x2) {k : Nat} (hk : k < 3) (x : Int) : ∃ y0 y1 y2, Trip (w.setCell ⟨b, k, none⟩ (.int .i64 x)) b y0 y1 y2 := by
  have hs := heap_setCell_same w b k _ _ (.int .i64 x) h
  match k, hk with
  | 0, _ => exact ⟨x, x1, x2, hs⟩
  | 1, _ => exact ⟨x0, x, x2, hs⟩
  | 2, _ => exact ⟨x0, x1, x, hs⟩
theorem Trip.ints (h : Trip w b x0 x1 x2) : Ints w b (b + 1) (some ⟨b, 0, none⟩) 3 [x0, x1, x2] := by
  unfold Trip at h
  refine ⟨rfl, fun _ => ⟨b, 0, rfl, Nat.le_refl _, by omega, fun j u hu => ?_⟩⟩
  match j, hu with
  | 0, hu => simp at hu; subst hu; simp [World.cell?, h]
  | 1, hu => simp at hu; subst hu; simp [World.cell?, h]
  | 2, hu => simp at hu; subst hu; simp [World.cell?, h]
  | j + 3, hu => simp at hu
theorem Trip.ints1 (h : Trip w b x0 x1 x2) : Ints w b (b + 1) (some ⟨b, 1, none⟩) 2 [x1, x2] := by
  unfold Trip at h
  refine ⟨rfl, fun _ => ⟨b, 1, rfl, Nat.le_refl _, by omega, fun j u hu => ?_⟩⟩
  match j, hu with
  | 0, hu => simp at hu; subst hu; simp [World.cell?, h]
  | 1, hu => simp at hu; subst hu; simp [World.cell?, h]
  | j + 2, hu => simp at hu
end

/-- Counts that were drawn: three, or the last two of three. -/
def DrawnVv (w w' : World) (g p : Nat) (e : Ending) : Prop :=
  ∃ (b : Nat) (x0 x1 x2 : Int), Gro g w w' ∧ w.heap.size ≤ b ∧ Trip w' b x0 x1 x2 ∧ (∃ p', p' ≤ p + 6 ∧ Rd w' g p') ∧ (e = .returned (.slice (some ⟨b, 0, none⟩) 3 3) ∨ e = .returned (.slice (some ⟨b, 1, none⟩) 2 2))

set_option maxRecDepth 100000 in
theorem l71Vv_any (g p : Nat) (w : World) (h : Rd w g p) (hp : p ≤ 900000) :
    Calls Tryd.prog 29 #[.pointer (some ⟨g, 0, none⟩)] w fun e w' => DrawnVv w w' g p e := by
  have H := Lib.hid h
  have hg := h.lt
  clear h
  go_enter Tryd.func29, Tryd.ntmps29
  go_wp2_with fail
  refine (pick_any g p 4 _ H.out (by omega) (by omega) (by omega)).mono ?_
  rintro e w1 ⟨v1, rfl, _, hG, hR⟩
  have G1 := Lib.hid hG
  have R1 := Lib.hid hR
  clear hG hR
  go_wp2_with fail
  refine (pick_any g _ 4 _ R1.out (by omega) (by omega) (by omega)).mono ?_
  rintro e w2 ⟨v2, rfl, _, hG, hR⟩
  have G2 := Lib.hid (G1.out.trans hG)
  have R2 := Lib.hid hR
  clear hG hR
  go_wp2_with fail
  refine (pick_any g _ 4 _ R2.out (by omega) (by omega) (by omega)).mono ?_
  rintro e w3 ⟨v3, rfl, _, hG, hR⟩
  have G3 := Lib.hid (G2.out.trans hG)
  have R3 := Lib.hid hR
  have s3 := (G2.out.trans hG).size
  clear hG hR
  go_wp2_with fail
  refine (pick_any g _ 40 _ (R3.out.below ((Below.refl _ _).alloc (Nat.le_refl _) _)) (by omega) (by omega) (by omega)).mono ?_
  rintro e w4 ⟨v4, rfl, hv4, hG, hR⟩
  have G4 := Lib.hid ((G3.out.alloc _).trans hG)
  have R4 := Lib.hid hR
  have T4 := Lib.hid ((Trip.new w3 (v1 : Int) (v2 : Int) (v3 : Int)).gro hG (by omega))
  clear hG hR
  by_cases k0 : v4 = 0
  · subst k0
    go_wp2_with fail
    refine (pick_any g _ 3 _ R4.out (by omega) (by omega) (by omega)).mono ?_
    rintro e w5 ⟨v5, rfl, hv5, hG, hR⟩
    have G5 := Lib.hid (G4.out.trans hG)
    have R5 := Lib.hid hR
    have T5 := Lib.hid (T4.out.gro hG (by omega))
    have s5 := (G4.out.trans hG).size
    clear hG hR
    go_wp2_with fail
    refine (pick_any g _ 3 _ (R5.out.below ((Below.refl _ _).alloc (Nat.le_refl _) _)) (by omega) (by omega) (by omega)).mono ?_
    rintro e w6 ⟨v6, rfl, hv6, hG, hR⟩
    have G6 := Lib.hid ((G5.out.alloc _).trans hG)
    have R6 := Lib.hid hR
    have T6 := Lib.hid ((T5.out.alloc _).gro hG (by omega))
    obtain ⟨y, hy⟩ := ((Trip.new w5 (-1) 30 31).gro hG (by omega)).at_ (k := v6) (by omega)
    obtain ⟨z, hz⟩ := T6.out.at_ (k := v5) (by omega)
    have hf := T6.out.free v5
    clear hG hR
    go_wp2
    go_ret
    obtain ⟨y0, y1, y2, hT⟩ := T6.out.set_ (k := v5) (by omega) y
    refine ⟨w3.heap.size, y0, y1, y2, ?_, s3, hT, ⟨_, ?_, R6.out.keep fun i hi => Below.heap_setCell _ _ _ _ (by show i ≠ w3.heap.size; omega)⟩, .inl rfl⟩
    · exact ⟨G6.out.os, G6.out.tape, G6.out.output, by simpa [World.setCell] using G6.out.size, fun i hi hn => (Below.heap_setCell _ _ _ _ (by show i ≠ w3.heap.size; omega)).trans (G6.out.block i hi hn)⟩
    · omega
  · by_cases k1 : v4 = 1
    · subst k1
      go_wp2
      go_ret
      exact ⟨w3.heap.size, _, _, _, G4.out, s3, T4.out, ⟨_, by omega, R4.out⟩, .inr rfl⟩
    · go_wp2
      go_ret
      exact ⟨w3.heap.size, _, _, _, G4.out, s3, T4.out, ⟨_, by omega, R4.out⟩, .inl rfl⟩

/-- Counts that were drawn, as a list. -/
def DrawnInts (w w' : World) (g p more : Nat) (e : Ending) : Prop :=
  ∃ (A : Option Addr) (n c : Nat) (xs : List Int), e = .returned (.slice A n c) ∧ n ≤ 3 ∧ Gro g w w' ∧ Ints w' w.heap.size w'.heap.size A n xs ∧ ∃ p', p' ≤ p + more ∧ Rd w' g p'

theorem l71Vv_ints (g p : Nat) (w : World) (h : Rd w g p) (hp : p ≤ 900000) :
    Calls Tryd.prog 29 #[.pointer (some ⟨g, 0, none⟩)] w fun e w' => DrawnInts w w' g p 6 e := by
  refine (l71Vv_any g p w h hp).mono ?_
  rintro e w' ⟨b, x0, x1, x2, hG, hb, hT, hR, rfl | rfl⟩
  · exact ⟨_, 3, 3, _, rfl, by omega, hG, hT.ints.wide hb (by have := hT.lt; omega), hR⟩
  · exact ⟨_, 2, 2, _, rfl, by omega, hG, hT.ints1.wide hb (by have := hT.lt; omega), hR⟩

end Go.Proofs.YtldnpfkgehgfpaaDoor
