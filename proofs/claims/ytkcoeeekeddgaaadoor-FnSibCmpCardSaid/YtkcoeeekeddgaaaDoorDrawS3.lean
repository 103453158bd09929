
/-
  Contract of the drawn pair of versions: DrawSibCmp.
-/
import Derived.Test.YtkcoeeekeddgaaaDoorDrawS2
namespace Go.Proofs.YtkcoeeekeddgaaaDoor
open Go.RowKit Go.PlainAid

theorem cell_upD {w w' : World} {a : Addr} {v : Value} (hb : Below w.heap.size w w') (h : w.cell? a = some v) : w'.cell? a = some v := (hb.cell (World.block_lt_of_cell? w _ h)).trans h

theorem has_drew {W : World} {A : Option Addr} {n : Nat} {xs : List Int} (h : Has W A n xs) : Has W.drew A n xs := h
theorem ints_set3 {W : World} {lo hi n b : Nat} {A : Option Addr} {xs : List Int} (I : Ints W lo hi A n xs) (hb : b < lo) (v0 v1 v2 : Value) :
    Ints (((W.setCell ⟨b, 0, none⟩ v0).setCell ⟨b, 1, none⟩ v1).setCell ⟨b, 2, none⟩ v2) lo hi A n xs := by
  have h0 : Ints (W.setCell ⟨b, 0, none⟩ v0) lo hi A n xs := I.set (.inl hb)
  have h1 : Ints ((W.setCell ⟨b, 0, none⟩ v0).setCell ⟨b, 1, none⟩ v1) lo hi A n xs := h0.set (.inl hb)
  exact h1.set (.inl hb)
theorem bel_set3 {a W : World} {B b : Nat} (h : Below B a W) (hb : B ≤ b) (v0 v1 v2 : Value) : Below B a (((W.setCell ⟨b, 0, none⟩ v0).setCell ⟨b, 1, none⟩ v1).setCell ⟨b, 2, none⟩ v2) := by
  have h0 : Below B a (W.setCell ⟨b, 0, none⟩ v0) := h.setCell hb _
  have h1 : Below B a ((W.setCell ⟨b, 0, none⟩ v0).setCell ⟨b, 1, none⟩ v1) := h0.setCell hb _
  exact h1.setCell hb _
theorem size_set3 (W : World) (b : Nat) (v0 v1 v2 : Value) : (((W.setCell ⟨b, 0, none⟩ v0).setCell ⟨b, 1, none⟩ v1).setCell ⟨b, 2, none⟩ v2).heap.size = W.heap.size := by
  rw [setCell_size, setCell_size, setCell_size]
theorem pair_end {w W : World} {lo1 hi1 lo2 hi2 n1 n2 : Nat} {A1 A2 : Option Addr} {xs ys : List Int} (B : Below w.heap.size w W) (I : Ints W lo1 hi1 A1 n1 xs) (J : Ints W lo2 hi2 A2 n2 ys) (h1 : w.heap.size + 1 < lo1) (h2 : w.heap.size + 1 < lo2) (h3 : hi1 ≤ W.heap.size) (h4 : hi2 ≤ W.heap.size) (v0 v1 v2 u0 u1 u2 : Value) :
    Below w.heap.size w ((((((W.setCell ⟨w.heap.size, 0, none⟩ v0).setCell ⟨w.heap.size, 1, none⟩ v1).setCell ⟨w.heap.size, 2, none⟩ v2).setCell ⟨w.heap.size + 1, 0, none⟩ u0).setCell ⟨w.heap.size + 1, 1, none⟩ u1).setCell ⟨w.heap.size + 1, 2, none⟩ u2).drew ∧
    Has ((((((W.setCell ⟨w.heap.size, 0, none⟩ v0).setCell ⟨w.heap.size, 1, none⟩ v1).setCell ⟨w.heap.size, 2, none⟩ v2).setCell ⟨w.heap.size + 1, 0, none⟩ u0).setCell ⟨w.heap.size + 1, 1, none⟩ u1).setCell ⟨w.heap.size + 1, 2, none⟩ u2).drew A1 n1 xs ∧
    Has ((((((W.setCell ⟨w.heap.size, 0, none⟩ v0).setCell ⟨w.heap.size, 1, none⟩ v1).setCell ⟨w.heap.size, 2, none⟩ v2).setCell ⟨w.heap.size + 1, 0, none⟩ u0).setCell ⟨w.heap.size + 1, 1, none⟩ u1).setCell ⟨w.heap.size + 1, 2, none⟩ u2).drew A2 n2 ys := by
  obtain ⟨x, hx⟩ : ∃ x, x = w.heap.size := ⟨_, rfl⟩
  rw [← hx] at h1 h2 ⊢
  have b1 := bel_set3 (bel_set3 B (b := x) (by omega) v0 v1 v2) (b := x + 1) (by omega) u0 u1 u2
  rw [← hx] at b1
  have i1 := ints_set3 (ints_set3 I (b := x) (by omega) v0 v1 v2) (b := x + 1) h1 u0 u1 u2
  have j1 := ints_set3 (ints_set3 J (b := x) (by omega) v0 v1 v2) (b := x + 1) h2 u0 u1 u2
  exact ⟨b1.drew, has_drew (Has.of i1 (by rw [size_set3, size_set3]; exact h3)), has_drew (Has.of j1 (by rw [size_set3, size_set3]; exact h4))⟩

set_option maxRecDepth 100000 in
set_option maxHeartbeats 1600000 in
theorem DrawSibCmp_any (A : Option Addr) (n c : Nat) (zs : List Int) (w : World) (h : Came w A n c zs) :
    Calls Tryd.prog 29 #[.slice A n c] w fun e w' => ∃ (A1 : Option Addr) (n1 c1 : Nat) (xs : List Int) (b : Bool) (t : ByteArray) (A2 : Option Addr) (n2 c2 : Nat) (ys : List Int) (b' : Bool) (u : ByteArray),
      e = .returned (.tuple #[.agg #[.slice A1 n1 c1, .bool b, .string t], .agg #[.slice A2 n2 c2, .bool b', .string u]]) ∧ n1 ≤ 3 ∧ t.size ≤ 16 ∧ n2 ≤ 3 ∧ u.size ≤ 16 ∧ Below w.heap.size w w' ∧ Has w' A1 n1 xs ∧ Has w' A2 n2 ys := by
  have k1 := bel_alloc w (.cells #[.slice none 0 0, .bool false, .string ⟨#[]⟩] 31)
  have k2 := bel_alloc (w.alloc (.cells #[.slice none 0 0, .bool false, .string ⟨#[]⟩] 31)) (.cells #[.slice none 0 0, .bool false, .string ⟨#[]⟩] 31)
  have H := Lib.hid ((h.below k1).below k2)
  have B0 := Lib.hid (k1.trans (k2.mono k1.size))
  have R0 := Lib.hid ((Var3.new 31 w (.slice none 0 0) (.bool false) (.string ⟨#[]⟩)).step k2)
  have S0 : Hid (Var3 31 ((w.alloc (.cells #[.slice none 0 0, .bool false, .string ⟨#[]⟩] 31)).alloc (.cells #[.slice none 0 0, .bool false, .string ⟨#[]⟩] 31)) (w.heap.size + 1) (.slice none 0 0) (.bool false) (.string ⟨#[]⟩)) :=
    Lib.hid (by simpa using Var3.new 31 (w.alloc (.cells #[.slice none 0 0, .bool false, .string ⟨#[]⟩] 31)) (.slice none 0 0) (.bool false) (.string ⟨#[]⟩))
  clear h k1 k2
  go_enter Tryd.func29, Tryd.ntmps29
  go_wp2_with fail
  refine (open_any A n c zs _ H.out).mono ?_
  rintro e w1 ⟨g, rfl, hg, hb, hR⟩
  have hg' : w.heap.size + 2 ≤ g := by simpa using hg
  have B1 := Lib.hid (B0.out.trans (hb.mono B0.out.size))
  have U1 := Lib.hid (R0.out.step hb)
  have V1 := Lib.hid (S0.out.step hb)
  have Rd1 := Lib.hid hR
  have hgl := hR.lt
  clear hb hR hg
  go_wp2_with fail
  refine (l71Sib_any g 0 _ Rd1.out (by omega)).mono ?_
  rintro e w2 ⟨A1, n1, c1, xs, b, t, rfl, hn1, ht, hG, hI, p2, hp2, hR⟩
  have s2 := hG.size
  have ka := bel_alloc w2 (.cells #[.slice A1 n1 c1, .bool b, .string t] 31)
  have B2 := Lib.hid ((B1.out.trans (hG.below (by omega) (by omega))).trans (ka.mono (by omega)))
  have U2 := Lib.hid ((U1.out.gro hG (by omega)).step ka)
  have V2 := Lib.hid ((V1.out.gro hG (by omega)).step ka)
  have X2 := Lib.hid (Var3.new 31 w2 (.slice A1 n1 c1) (.bool b) (.string t))
  have Rd2 := Lib.hid (hR.below ka)
  have I2 := Lib.hid (hI.below ka (Nat.le_refl _))
  clear hG hI hR ka
  go_wp2_with fail
  refine (l71Sib_any g p2 _ Rd2.out (by omega)).mono ?_
  rintro e w3 ⟨A2, n2, c2, ys, b', u, rfl, hn2, hu, hG, hI, p3, hp3, hR⟩
  have s3 : w2.heap.size + 1 ≤ w3.heap.size := by have := hG.size; simp at this; omega
  have ka := bel_alloc w3 (.cells #[.slice A2 n2 c2, .bool b', .string u] 31)
  have B3 := Lib.hid ((B2.out.trans (hG.below (by omega) (by simp; omega))).trans (ka.mono (by omega)))
  have U3 := Lib.hid ((U2.out.gro hG (by omega)).step ka)
  have V3 := Lib.hid ((V2.out.gro hG (by omega)).step ka)
  have X3 := Lib.hid ((X2.out.gro hG (by omega)).step ka)
  have Y3 := Lib.hid (Var3.new 31 w3 (.slice A2 n2 c2) (.bool b') (.string u))
  have Rd3 := Lib.hid (hR.below ka)
  have I3 := Lib.hid ((I2.out.keep (hG.keep (.inl hgl) (by simp))).below ka (by omega))
  have J3 : Hid (Ints (w3.alloc (.cells #[.slice A2 n2 c2, .bool b', .string u] 31)) (w2.heap.size + 1) w3.heap.size A2 n2 ys) := Lib.hid (Ints.below (by simpa using hI) ka (Nat.le_refl _))
  clear hG hI hR ka
  go_wp2_with fail
  refine (pick_any g p3 2 _ Rd3.out (by omega) (by omega) (by omega)).mono ?_
  rintro e w4 ⟨v4, rfl, hv4, hG, hR⟩
  have s4 : w3.heap.size + 1 ≤ w4.heap.size := by have := hG.size; simp at this; omega
  have B4 := Lib.hid (B3.out.trans (hG.below (by omega) (by simp; omega)))
  have U4 := Lib.hid (U3.out.gro hG (by omega))
  have V4 := Lib.hid (V3.out.gro hG (by omega))
  have X4 := Lib.hid (X3.out.gro hG (by omega))
  have Y4 := Lib.hid (Y3.out.gro hG (by omega))
  have I4 := Lib.hid (I3.out.keep (hG.keep (.inl hgl) (by simp; omega)))
  have J4 := Lib.hid (J3.out.keep (hG.keep (.inl (by omega)) (by simp)))
  have Rd4 := Lib.hid hR
  clear hG hR
  have x0 := X4.out.c0
  have x1 := X4.out.c1
  have x2 := X4.out.c2
  have y0 := Y4.out.c0
  have y1 := Y4.out.c1
  have y2 := Y4.out.c2
  have f0 := Y4.out.f 0
  have f1 := Y4.out.f 1
  have f2 := Y4.out.f 2
  have l2 : w2.heap.size < w4.heap.size := by omega
  have l3 : w3.heap.size < w4.heap.size := by omega
  have ne1 : w2.heap.size ≠ w3.heap.size := by omega
  have s1 : w.heap.size + 2 < w1.heap.size := by omega
  by_cases hv : v4 = 0
  · subst hv
    have k3 : w.heap.size ≤ w3.heap.size := by omega
    have G3 : g < w3.heap.size := by omega
    go_wp2_with fail
    refine (l71Text_any g (p3 + 1) _ (((Rd4.out.set (q := ⟨w3.heap.size, 0, none⟩) G3).set (q := ⟨w3.heap.size, 1, none⟩) G3).set (q := ⟨w3.heap.size, 2, none⟩) G3) (by omega)).mono ?_
    rintro e w5 ⟨t', rfl, ht', hG, p5, hp5, hR⟩
    have s5 : w4.heap.size ≤ w5.heap.size := by have := hG.size; rw [setCell_size, setCell_size, setCell_size] at this; exact this
    have B5 := Lib.hid ((((B4.out.setCell (p := ⟨w3.heap.size, 0, none⟩) k3 (.slice A1 n1 c1)).setCell (p := ⟨w3.heap.size, 1, none⟩) k3 (.bool b)).setCell (p := ⟨w3.heap.size, 2, none⟩) k3 (.string t)).trans (hG.below (by omega) (by rw [setCell_size, setCell_size, setCell_size]; omega)))
    have U5 := Lib.hid ((((U4.out.other (a := ⟨w3.heap.size, 0, none⟩) (by show w3.heap.size ≠ w.heap.size; omega) (.slice A1 n1 c1)).other (a := ⟨w3.heap.size, 1, none⟩) (by show w3.heap.size ≠ w.heap.size; omega) (.bool b)).other (a := ⟨w3.heap.size, 2, none⟩) (by show w3.heap.size ≠ w.heap.size; omega) (.string t)).gro hG (by omega))
    have V5 := Lib.hid ((((V4.out.other (a := ⟨w3.heap.size, 0, none⟩) (by show w3.heap.size ≠ w.heap.size + 1; omega) (.slice A1 n1 c1)).other (a := ⟨w3.heap.size, 1, none⟩) (by show w3.heap.size ≠ w.heap.size + 1; omega) (.bool b)).other (a := ⟨w3.heap.size, 2, none⟩) (by show w3.heap.size ≠ w.heap.size + 1; omega) (.string t)).gro hG (by omega))
    have X5 := Lib.hid ((((X4.out.other (a := ⟨w3.heap.size, 0, none⟩) (by show w3.heap.size ≠ w2.heap.size; omega) (.slice A1 n1 c1)).other (a := ⟨w3.heap.size, 1, none⟩) (by show w3.heap.size ≠ w2.heap.size; omega) (.bool b)).other (a := ⟨w3.heap.size, 2, none⟩) (by show w3.heap.size ≠ w2.heap.size; omega) (.string t)).gro hG (by omega))
    have Y5 := Lib.hid ((((Y4.out.set0 (.slice A1 n1 c1)).set1 (.bool b)).set2 (.string t)).gro hG (by omega))
    have I5 := Lib.hid ((((I4.out.set (q := ⟨w3.heap.size, 0, none⟩) (u := .slice A1 n1 c1) (.inr (by show w2.heap.size ≤ w3.heap.size; omega))).set (q := ⟨w3.heap.size, 1, none⟩) (u := .bool b) (.inr (by show w2.heap.size ≤ w3.heap.size; omega))).set (q := ⟨w3.heap.size, 2, none⟩) (u := .string t) (.inr (by show w2.heap.size ≤ w3.heap.size; omega))).keep (hG.keep (.inl hgl) (by rw [setCell_size, setCell_size, setCell_size]; omega)))
    clear hG hR x0 x1 x2 y0 y1 y2 f0 f1 f2
    have x0 := X5.out.c0
    have x1 := X5.out.c1
    have x2 := X5.out.c2
    have y0 := Y5.out.c0
    have y1 := Y5.out.c1
    have y2 := Y5.out.c2
    have f2 := Y5.out.f 2
    have l2' : w2.heap.size < w5.heap.size := by omega
    have l3' : w3.heap.size < w5.heap.size := by omega
    have d0 := U5.out.c0
    have d1 := U5.out.c1
    have d2 := U5.out.c2
    have df0 := U5.out.f 0
    have df1 := U5.out.f 1
    have df2 := U5.out.f 2
    have e0 := V5.out.c0
    have e1 := V5.out.c1
    have e2 := V5.out.c2
    have ef0 := V5.out.f 0
    have ef1 := V5.out.f 1
    have ef2 := V5.out.f 2
    have m0 : w.heap.size < w5.heap.size := by omega
    have m1 : w.heap.size + 1 < w5.heap.size := by omega
    have m2 : w.heap.size ≠ w2.heap.size := by omega
    have m3 : w.heap.size ≠ w3.heap.size := by omega
    have m4 : w.heap.size + 1 ≠ w2.heap.size := by omega
    have m5 : w.heap.size + 1 ≠ w3.heap.size := by omega
    have m6 : w2.heap.size ≠ w.heap.size := by omega
    have m7 : w3.heap.size ≠ w.heap.size := by omega
    have m8 : w2.heap.size ≠ w.heap.size + 1 := by omega
    have m9 : w3.heap.size ≠ w.heap.size + 1 := by omega
    go_wp2
    go_region
    go_wp2
    refine bodyPost_ret (v := .tuple #[.agg #[.slice A1 n1 c1, .bool b, .string t], .agg #[.slice A1 n1 c1, .bool b, .string t']]) (by simp [results, Tryd.results29, go_sem, d0, d1, d2, e0, e1, e2]) rfl ?_
    refine ⟨A1, n1, c1, xs, b, t, A1, n1, c1, xs, b, t', rfl, hn1, ht, hn1, ht', ?_⟩
    exact pair_end (B5.out.setCell (p := ⟨w3.heap.size, 2, none⟩) k3 (.string t')) (I5.out.set (q := ⟨w3.heap.size, 2, none⟩) (u := .string t') (.inr (by show w2.heap.size ≤ w3.heap.size; omega))) (I5.out.set (q := ⟨w3.heap.size, 2, none⟩) (u := .string t') (.inr (by show w2.heap.size ≤ w3.heap.size; omega))) (by omega) (by omega) (by rw [setCell_size]; omega) (by rw [setCell_size]; omega) _ _ _ _ _ _
  · skip
    have d0 := U4.out.c0
    have d1 := U4.out.c1
    have d2 := U4.out.c2
    have df0 := U4.out.f 0
    have df1 := U4.out.f 1
    have df2 := U4.out.f 2
    have e0 := V4.out.c0
    have e1 := V4.out.c1
    have e2 := V4.out.c2
    have ef0 := V4.out.f 0
    have ef1 := V4.out.f 1
    have ef2 := V4.out.f 2
    have m0 : w.heap.size < w4.heap.size := by omega
    have m1 : w.heap.size + 1 < w4.heap.size := by omega
    have m2 : w.heap.size ≠ w2.heap.size := by omega
    have m3 : w.heap.size ≠ w3.heap.size := by omega
    have m4 : w.heap.size + 1 ≠ w2.heap.size := by omega
    have m5 : w.heap.size + 1 ≠ w3.heap.size := by omega
    have m6 : w2.heap.size ≠ w.heap.size := by omega
    have m7 : w3.heap.size ≠ w.heap.size := by omega
    have m8 : w2.heap.size ≠ w.heap.size + 1 := by omega
    have m9 : w3.heap.size ≠ w.heap.size + 1 := by omega
    go_wp2
    go_region
    go_wp2
    refine bodyPost_ret (v := .tuple #[.agg #[.slice A1 n1 c1, .bool b, .string t], .agg #[.slice A2 n2 c2, .bool b', .string u]]) (by simp [results, Tryd.results29, go_sem, d0, d1, d2, e0, e1, e2]) rfl ?_
    refine ⟨A1, n1, c1, xs, b, t, A2, n2, c2, ys, b', u, rfl, hn1, ht, hn2, hu, ?_⟩
    exact pair_end B4.out I4.out J4.out (by omega) (by omega) (by omega) (by omega) _ _ _ _ _ _

end Go.Proofs.YtkcoeeekeddgaaaDoor
