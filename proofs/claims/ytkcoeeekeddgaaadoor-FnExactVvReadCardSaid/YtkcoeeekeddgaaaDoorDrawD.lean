
/-
  Contract of the drawn counts: DrawVvOk.
-/
import Derived.Test.YtkcoeeekeddgaaaDoorDrawC
import Derived.Deep.RegionLaw
namespace Go.Proofs.YtkcoeeekeddgaaaDoor
open Go.RowKit

theorem four_at (w : World) (a b c d : Int) {k : Nat} (hk : k < 4) : ∃ x, (w.alloc (.cells #[.int .i64 a, .int .i64 b, .int .i64 c, .int .i64 d] 3)).cell? ⟨w.heap.size, k, none⟩ = some (.int .i64 x) := by
  have h : (w.alloc (.cells #[.int .i64 a, .int .i64 b, .int .i64 c, .int .i64 d] 3)).heap[w.heap.size]? = some (.cells #[.int .i64 a, .int .i64 b, .int .i64 c, .int .i64 d] 3 (0, 0)) := heap_alloc_new w _
  match k, hk with
  | 0, _ => exact ⟨a, by simp only [World.cell?, h]; rfl⟩
  | 1, _ => exact ⟨b, by simp only [World.cell?, h]; rfl⟩
  | 2, _ => exact ⟨c, by simp only [World.cell?, h]; rfl⟩
  | 3, _ => exact ⟨d, by simp only [World.cell?, h]; rfl⟩

theorem trip_two {w : World} {b : Nat} {x0 x1 x2 : Int} (h : Trip w b x0 x1 x2) : w.cell? ⟨b, 2, none⟩ = some (.int .i64 x2) := by
  unfold Trip at h
  simp [World.cell?, h]

theorem trip_set2 {w : World} {b : Nat} {x0 x1 x2 : Int} (h : Trip w b x0 x1 x2) (y : Int) : Trip (w.setCell ⟨b, 2, none⟩ (.int .i64 y)) b x0 x1 y := heap_setCell_same w b 2 _ _ (.int .i64 y) h

set_option maxRecDepth 100000 in
set_option maxHeartbeats 1600000 in
theorem DrawVvOk_any (A : Option Addr) (n c : Nat) (zs : List Int) (w : World) (h : Came w A n c zs) :
    Calls Tryd.prog 25 #[.slice A n c] w fun e w' => ∃ (A1 : Option Addr) (n1 c1 : Nat) (xs : List Int), e = .returned (.slice A1 n1 c1) ∧ n1 ≤ 3 ∧ n1 ≤ c1 ∧ Below w.heap.size w w' ∧ Ints w' w.heap.size w'.heap.size A1 n1 xs := by
  obtain ⟨i0, hi0, hz0, hz1, hz2⟩ := info_parts infoInt
  have H := Lib.hid h
  clear h hz2
  go_enter Tryd.func25, Tryd.ntmps25
  go_wp2_with fail
  refine (open_any A n c zs _ H.out).mono ?_
  rintro e w1 ⟨g, rfl, hg, hb, hR⟩
  have B1 := Lib.hid hb
  have R1 := Lib.hid hR
  have s1 := hb.size
  clear hb hR
  go_wp2_with fail
  refine (l71Vv_any g 0 _ R1.out (by omega)).mono ?_
  rintro e w2 ⟨b, x0, x1, x2, hG, hb, hT, ⟨p2, hp2, hR⟩, he⟩
  have B2 := Lib.hid (B1.out.trans (hG.below hg s1))
  have T2 := Lib.hid hT
  have R2 := Lib.hid hR
  have s2 := hG.size
  have hgl := R1.out.lt
  clear hG hT hR
  rcases he with rfl | rfl
  all_goals
    go_wp2_with fail
    refine (pick_any g p2 4 _ R2.out (by omega) (by omega) (by omega)).mono ?_
    rintro e w3 ⟨v3, rfl, hv3, hG, hR⟩
    have B3 := Lib.hid (B2.out.trans (hG.below hg (by omega)))
    have T3 := Lib.hid (T2.out.gro hG (by omega))
    have R3 := Lib.hid hR
    have s3 := hG.size
    clear hG hR
    by_cases k0 : v3 = 0
    · subst k0
      have hw2 : IntKind.i64.wrap 2 = 2 := IntWalk.i64_in _ (by omega)
      have hw1 : IntKind.i64.wrap 1 = 1 := IntWalk.i64_in _ (by omega)
      have HP := Lib.hid (pick_any g (p2 + 1) 4 (w3.alloc (.cells #[.int .i64 (-1), .int .i64 0, .int .i64 30, .int .i64 31] 3)).drew ((R3.out.below ((Below.refl _ _).alloc (Nat.le_refl _) _)).keep fun _ _ => rfl) (by omega) (by omega) (by omega))
      have HQ := Lib.hid (pick_any g (p2 + 1) 4 w3.drew (R3.out.keep fun _ _ => rfl) (by omega) (by omega) (by omega))
      go_wp2
      go_region_law (first
        | (go_simp; go_at_call 56; ((with_reducible refine (HP.out).mono ?_); rintro e w4 ⟨v4, rfl, hv4, hG4, hR4⟩; obtain ⟨y, hy0⟩ := four_at w3 (-1) 0 30 31 (k := v4) (by omega); have hy : w4.cell? ⟨w3.heap.size, v4, none⟩ = some (.int .i64 y) := (World.cell?_of_block (w := (w3.alloc (.cells #[.int .i64 (-1), .int .i64 0, .int .i64 30, .int .i64 31] 3)).drew) (w' := w4) (a := ⟨w3.heap.size, v4, none⟩) (hG4.block w3.heap.size (by show w3.heap.size < (w3.alloc _).heap.size; simp) (by omega))).trans hy0; have hT4 : Trip w4 b x0 x1 x2 := Trip.gro (w := (w3.alloc (.cells #[.int .i64 (-1), .int .i64 0, .int .i64 30, .int .i64 31] 3)).drew) (T3.out.alloc _) hG4 (by omega); have hz := fun o => trip_two (hT4.alloc o); have hf := fun o => (hT4.alloc o).free 2; have G4 := Lib.hid hG4; have T4 := Lib.hid hT4; clear hG4 hR4 hy0 hT4))
        | (go_simp; go_at_call 56; ((with_reducible refine (HQ.out).mono ?_); rintro e w4 ⟨v4, rfl, hv4, hG4, hR4⟩; obtain ⟨y, hy⟩ := four_at w4 (-1) 0 30 31 (k := v4) (by omega); have hT4 : Trip w4 b x0 x1 x2 := Trip.gro (w := w3.drew) T3.out hG4 (by omega); have hz := fun o o' => trip_two ((hT4.alloc o).alloc o'); have hf := fun o o' => ((hT4.alloc o).alloc o').free 2; have G4 := Lib.hid hG4; have T4 := Lib.hid hT4; clear hG4 hR4 hT4)))
      all_goals
        go_wp2
        go_ret
        have hlt4 := T4.out.lt
      · have hb4 : Below w.heap.size w w4 := ((B3.out.alloc (by omega) _).drew).trans (G4.out.below hg (by show w.heap.size ≤ (w3.alloc _).heap.size; simp; omega))
        have hT := trip_set2 (T4.out.alloc (.cells #[.int .i64 y] 3)) y
        have hb' : Below w.heap.size w ((w4.alloc (.cells #[.int .i64 y] 3)).setCell ⟨b, 2, none⟩ (.int .i64 y)) := (hb4.alloc hb4.size _).setCell (p := ⟨b, 2, none⟩) (by show w.heap.size ≤ b; omega) _
        first
          | exact ⟨_, 3, 3, _, rfl, by omega, by omega, hb', hT.ints.wide (by omega) (by have := hT.lt; omega)⟩
          | exact ⟨_, 2, 2, _, rfl, by omega, by omega, hb', hT.ints1.wide (by omega) (by have := hT.lt; omega)⟩
      · have hb4 : Below w.heap.size w w4 := (B3.out.drew).trans (G4.out.below hg (by show w.heap.size ≤ w3.heap.size; omega))
        have hT := trip_set2 ((T4.out.alloc (.cells #[.int .i64 (-1), .int .i64 0, .int .i64 30, .int .i64 31] 3)).alloc (.cells #[.int .i64 y] 3)) y
        have hb' : Below w.heap.size w (((w4.alloc (.cells #[.int .i64 (-1), .int .i64 0, .int .i64 30, .int .i64 31] 3)).alloc (.cells #[.int .i64 y] 3)).setCell ⟨b, 2, none⟩ (.int .i64 y)) := ((hb4.alloc hb4.size _).alloc (by have := hb4.size; simp; omega) _).setCell (p := ⟨b, 2, none⟩) (by show w.heap.size ≤ b; omega) _
        first
          | exact ⟨_, 3, 3, _, rfl, by omega, by omega, hb', hT.ints.wide (by omega) (by have := hT.lt; omega)⟩
          | exact ⟨_, 2, 2, _, rfl, by omega, by omega, hb', hT.ints1.wide (by omega) (by have := hT.lt; omega)⟩
    · go_wp2
      go_ret
      first
        | exact ⟨_, 3, 3, _, rfl, by omega, by omega, B3.out, T3.out.ints.wide (by omega) (by have := T3.out.lt; omega)⟩
        | exact ⟨_, 2, 2, _, rfl, by omega, by omega, B3.out, T3.out.ints1.wide (by omega) (by have := T3.out.lt; omega)⟩

end Go.Proofs.YtkcoeeekeddgaaaDoor
