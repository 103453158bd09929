
/-
  Contracts of the drawn versions: l71Sib, DrawSibOk.
-/
import Derived.Test.YtldnpfkgehgfpaaDoorDrawS
namespace Go.Proofs.YtldnpfkgehgfpaaDoor
open Go.RowKit Go.PlainAid

theorem drawn_end {w W : World} {g p p4 hi n c : Nat} {A : Option Addr} {xs : List Int} {b : Bool} {t : ByteArray} (hg : g < w.heap.size) (G : Gro g w W) (I : Ints W (w.heap.size + 1) hi A n xs) (hhi : hi ≤ W.heap.size) (R : Rd W g p4) (hp4 : p4 ≤ p + 20)
    (hn : n ≤ 3) (ht : t.size ≤ 16) (v0 v1 v2 : Value) :
    DrawnSib w (((W.setCell ⟨w.heap.size, 0, none⟩ v0).setCell ⟨w.heap.size, 1, none⟩ v1).setCell ⟨w.heap.size, 2, none⟩ v2) g p 20 (.returned (.agg #[.slice A n c, .bool b, .string t])) :=
  ⟨A, n, c, xs, b, t, rfl, hn, ht, ((G.set (Nat.le_refl _)).set (Nat.le_refl _)).set (Nat.le_refl _), (((I.set (.inl (Nat.lt_succ_self _))).set (.inl (Nat.lt_succ_self _))).set (.inl (Nat.lt_succ_self _))).wide (by omega) (by rw [setCell_size, setCell_size, setCell_size]; exact hhi),
    p4, hp4, ((R.set hg).set hg).set hg⟩

set_option maxRecDepth 100000 in
theorem l71Sib_any (g p : Nat) (w : World) (h : Rd w g p) (hp : p ≤ 700000) :
    Calls Tryd.prog 17 #[.pointer (some ⟨g, 0, none⟩)] w fun e w' => DrawnSib w w' g p 20 e := by
  have hg := h.lt
  have R0 := Lib.hid (h.below (bel_alloc w (.cells #[.slice none 0 0, .bool false, .string ⟨#[]⟩] 43)))
  have G0 := Lib.hid (Gro.of_below (g := g) (bel_alloc w (.cells #[.slice none 0 0, .bool false, .string ⟨#[]⟩] 43)))
  have U0 := Lib.hid (Var3.new 43 w (.slice none 0 0) (.bool false) (.string ⟨#[]⟩))
  clear h
  go_enter Tryd.func17, Tryd.ntmps17
  go_wp2_with fail
  refine (l71Vv_ints g p _ R0.out (by omega)).mono ?_
  rintro e w1 ⟨A, n, c, xs, rfl, hn, hG, hI, p1, hp1, hR⟩
  have G1 := Lib.hid (G0.out.trans hG)
  have U1 := Lib.hid (U0.out.gro hG (by omega))
  have s1 : w.heap.size + 1 ≤ w1.heap.size := by have := hG.size; simp at this; omega
  have I1 : Hid (Ints w1 (w.heap.size + 1) w1.heap.size A n xs) := Lib.hid (by simpa using hI)
  have R1 := Lib.hid hR
  clear hG hI hR
  go_wp2_with fail
  refine (l71Text_any g p1 _ R1.out (by omega)).mono ?_
  rintro e w2 ⟨t, rfl, ht, hG, p2, hp2, hR⟩
  have G2 := Lib.hid (G1.out.trans hG)
  have U2 := Lib.hid (U1.out.gro hG (by omega))
  have s2 := hG.size
  have I2 := Lib.hid (I1.out.keep (hG.keep (.inl (by omega)) (Nat.le_refl _)))
  have R2 := Lib.hid (hR.below (bel_alloc w2 (.cells #[.slice A n c, .bool false, .string t] 43)))
  have G2' := Lib.hid (G2.out.alloc (.cells #[.slice A n c, .bool false, .string t] 43))
  have U2' := Lib.hid (U2.out.alloc (.cells #[.slice A n c, .bool false, .string t] 43))
  have V2 := Lib.hid (Var3.new 43 w2 (.slice A n c) (.bool false) (.string t))
  have I2' := Lib.hid (I2.out.below (bel_alloc w2 (.cells #[.slice A n c, .bool false, .string t] 43)) s2)
  clear hG hR
  go_wp2_with fail
  refine (pick_any g p2 5 _ R2.out (by omega) (by omega) (by omega)).mono ?_
  rintro e w3 ⟨v3, rfl, hv3, hG, hR⟩
  have G3 := Lib.hid (G2'.out.trans hG)
  have U3 := Lib.hid (U2'.out.gro hG (by omega))
  have V3 := Lib.hid (V2.out.gro hG (by omega))
  have s3 : w2.heap.size + 1 ≤ w3.heap.size := by have := hG.size; simp at this; omega
  have I3 := Lib.hid (I2'.out.keep (hG.keep (.inl (by omega)) (by simp; omega)))
  have R3 := Lib.hid hR
  clear hG hR
  have a1 := V3.out.c0
  have a2 := V3.out.c1
  have a3 := V3.out.c2
  have a4 := V3.out.f 1
  have a5 := V3.out.f 2
  have a6 : w2.heap.size < w3.heap.size := by omega
  by_cases hv : v3 = 0
  · subst hv
    go_wp2_with fail
    refine (pick_any g (p2 + 1) 40 _ ((R3.out.set (q := ⟨w2.heap.size, 1, none⟩) (by show g < w2.heap.size; omega)).set (q := ⟨w2.heap.size, 2, none⟩) (by show g < w2.heap.size; omega)) (by omega) (by omega) (by omega)).mono ?_
    rintro e w4 ⟨v4, rfl, hv4, hG, hR⟩
    have G4 := Lib.hid (((G3.out.set (q := ⟨w2.heap.size, 1, none⟩) (u := .bool true) (by show w.heap.size ≤ w2.heap.size; omega)).set (q := ⟨w2.heap.size, 2, none⟩) (u := .string ⟨#[]⟩) (by show w.heap.size ≤ w2.heap.size; omega)).trans hG)
    have U4 := (((U3.out.other (a := ⟨w2.heap.size, 1, none⟩) (by show w2.heap.size ≠ w.heap.size; omega) (.bool true)).other (a := ⟨w2.heap.size, 2, none⟩) (by show w2.heap.size ≠ w.heap.size; omega) (.string ⟨#[]⟩)).gro hG (by omega))
    have V4 := (((V3.out.set1 (.bool true)).set2 (.string ⟨#[]⟩)).gro hG (by omega))
    have s4 : w2.heap.size + 1 ≤ w4.heap.size := by have := hG.size; rw [setCell_size, setCell_size] at this; omega
    have I4 := Lib.hid (((I3.out.set (q := ⟨w2.heap.size, 1, none⟩) (u := .bool true) (.inr (by show w1.heap.size ≤ w2.heap.size; omega))).set (q := ⟨w2.heap.size, 2, none⟩) (u := .string ⟨#[]⟩) (.inr (by show w1.heap.size ≤ w2.heap.size; omega))).keep (hG.keep (.inl (by omega)) (by rw [setCell_size, setCell_size]; omega)))
    have R4 := Lib.hid hR
    have b1 := V4.c0
    have b2 := V4.c1
    have b3 := V4.c2
    have b4 := V4.f 1
    have d1 := U4.c0
    have d2 := U4.c1
    have d3 := U4.c2
    have d4 := U4.f 0
    have d5 := U4.f 1
    have d6 := U4.f 2
    have b6 : w2.heap.size < w4.heap.size := by omega
    have b7 : w.heap.size ≠ w2.heap.size := by omega
    have b8 : w2.heap.size ≠ w.heap.size := by omega
    clear hG hR U4 V4 a1 a2 a3 a4 a5 a6
    by_cases hv' : v4 = 0
    · subst hv'
      go_wp2
      refine bodyPost_ret (v := .agg #[.slice A n c, .bool false, .string ⟨#[]⟩]) (by simp [results, Tryd.results17, go_sem, d1, d2, d3]) rfl ?_
      exact drawn_end hg (G4.out.set (q := ⟨w2.heap.size, 1, none⟩) (by show w.heap.size ≤ w2.heap.size; omega)) (I4.out.set (q := ⟨w2.heap.size, 1, none⟩) (.inr (by show w1.heap.size ≤ w2.heap.size; omega))) (by rw [setCell_size]; omega) (R4.out.set (q := ⟨w2.heap.size, 1, none⟩) (by show g < w2.heap.size; omega)) (by omega) hn (by decide) _ _ _
    · go_wp2
      refine bodyPost_ret (v := .agg #[.slice A n c, .bool true, .string ⟨#[]⟩]) (by simp [results, Tryd.results17, go_sem, d1, d2, d3]) rfl ?_
      exact drawn_end hg G4.out I4.out (by omega) R4.out (by omega) hn (by decide) _ _ _
  · go_wp2_with fail
    refine (pick_any g (p2 + 1) 40 _ R3.out (by omega) (by omega) (by omega)).mono ?_
    rintro e w4 ⟨v4, rfl, hv4, hG, hR⟩
    have G4 := Lib.hid (G3.out.trans hG)
    have U4 := U3.out.gro hG (by omega)
    have V4 := V3.out.gro hG (by omega)
    have s4 : w2.heap.size + 1 ≤ w4.heap.size := by have := hG.size; omega
    have I4 := Lib.hid (I3.out.keep (hG.keep (.inl (by omega)) (by omega)))
    have R4 := Lib.hid hR
    have b1 := V4.c0
    have b2 := V4.c1
    have b3 := V4.c2
    have b4 := V4.f 1
    have d1 := U4.c0
    have d2 := U4.c1
    have d3 := U4.c2
    have d4 := U4.f 0
    have d5 := U4.f 1
    have d6 := U4.f 2
    have b6 : w2.heap.size < w4.heap.size := by omega
    have b7 : w.heap.size ≠ w2.heap.size := by omega
    have b8 : w2.heap.size ≠ w.heap.size := by omega
    clear hG hR U4 V4 a1 a2 a3 a4 a5 a6
    by_cases hv' : v4 = 0
    · subst hv'
      go_wp2
      refine bodyPost_ret (v := .agg #[.slice A n c, .bool true, .string t]) (by simp [results, Tryd.results17, go_sem, d1, d2, d3]) rfl ?_
      exact drawn_end hg (G4.out.set (q := ⟨w2.heap.size, 1, none⟩) (by show w.heap.size ≤ w2.heap.size; omega)) (I4.out.set (q := ⟨w2.heap.size, 1, none⟩) (.inr (by show w1.heap.size ≤ w2.heap.size; omega))) (by rw [setCell_size]; omega) (R4.out.set (q := ⟨w2.heap.size, 1, none⟩) (by show g < w2.heap.size; omega)) (by omega) hn ht _ _ _
    · go_wp2
      refine bodyPost_ret (v := .agg #[.slice A n c, .bool false, .string t]) (by simp [results, Tryd.results17, go_sem, d1, d2, d3]) rfl ?_
      exact drawn_end hg G4.out I4.out (by omega) R4.out (by omega) hn ht _ _ _

end Go.Proofs.YtldnpfkgehgfpaaDoor
