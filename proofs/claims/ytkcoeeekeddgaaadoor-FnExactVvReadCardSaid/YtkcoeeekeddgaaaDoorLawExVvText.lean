
/-
  The walks of the laws FnExactVvText and FnVvOne.
-/
import Derived.Test.YtkcoeeekeddgaaaDoorTextC
import Derived.Test.YtkcoeeekeddgaaaDoorDrawD
import Derived.Test.YtkcoeeekeddgaaaDoorLawKit
namespace Go.Proofs.YtkcoeeekeddgaaaDoor
open Go.RowKit Go.PlainAid

set_option maxRecDepth 100000 in
theorem FnExactVvText_walk (A : Option Addr) (n c : Nat) (xs : List Int) (w : World) (h : Has w A n xs) (hn : n ≤ maxLen) :
    Calls Tryd.prog 3 #[.slice A n c] w fun e w' => e = .returned (.bool true) ∧ Below w.heap.size w w' := by
  unfold maxLen at hn
  by_cases big : 1048576 < n
  · go_enter Tryd.func3, Tryd.ntmps3
    go_wp2
    go_ret
    exact ⟨rfl, Below.refl _ _⟩
  have H := Lib.hid h
  clear h
  go_enter Tryd.func3, Tryd.ntmps3
  go_wp2_with fail
  refine (toIntS_h H.out (by omega)).mono ?_
  rintro e w1 ⟨g1, rfl, hb, hI⟩
  have B1 := Lib.hid hb
  replace H := Lib.hid (H.out.step hb)
  have I1 := Lib.hid hI
  clear hb hI
  go_wp2_with fail
  refine (sVvText_any _ n n xs _ I1.out (by unfold maxLen; omega)).mono ?_
  rintro e w2 ⟨rfl, hb⟩
  have B2 := Lib.hid (B1.out.trans (hb.mono B1.out.size))
  replace H := Lib.hid (H.out.step hb)
  clear hb I1
  go_wp2_with fail
  refine (toIntS_h H.out (by omega)).mono ?_
  rintro e w3 ⟨g3, rfl, hb, hI⟩
  have B3 := Lib.hid (B2.out.trans (hb.mono B2.out.size))
  replace H := Lib.hid (H.out.step hb)
  have I3 := Lib.hid hI
  clear hb hI
  go_wp2_with fail
  refine (iVvText_any _ n n xs _ I3.out (by unfold maxLen; omega)).mono ?_
  rintro e w4 ⟨rfl, hb⟩
  have B4 := Lib.hid (B3.out.trans (hb.mono B3.out.size))
  replace H := Lib.hid (H.out.step hb)
  replace I3 := Lib.hid (I3.out.step hb)
  clear hb
  go_wp2_with fail
  refine (toIntS_h H.out (by omega)).mono ?_
  rintro e w5 ⟨g5, rfl, hb, hI⟩
  have B5 := Lib.hid (B4.out.trans (hb.mono B4.out.size))
  replace I3 := Lib.hid (I3.out.step hb)
  have I5 := Lib.hid hI
  clear hb hI
  go_wp2_with fail
  refine (eqIntS_h I3.out I5.out (by unfold maxLen; omega)).mono ?_
  rintro e w6 ⟨rfl, hb⟩
  rw [decide_eq_true rfl]
  have B6 := Lib.hid (B5.out.trans (hb.mono B5.out.size))
  clear hb
  go_wp2
  go_ret
  exact ⟨rfl, B6.out⟩

set_option maxRecDepth 100000 in
theorem DrawVvText_any (A : Option Addr) (n c : Nat) (zs : List Int) (w : World) (h : Came w A n c zs) :
    Calls Tryd.prog 24 #[.slice A n c] w fun e w' => ∃ (A1 : Option Addr) (n1 c1 : Nat) (xs : List Int), e = .returned (.slice A1 n1 c1) ∧ n1 ≤ 3 ∧ Below w.heap.size w w' ∧ Has w' A1 n1 xs := by
  have H := Lib.hid h
  clear h
  go_enter Tryd.func24, Tryd.ntmps24
  go_wp2_with fail
  refine (open_any A n c zs _ H.out).mono ?_
  rintro e w1 ⟨g, rfl, hg, hb, hR⟩
  have B1 := Lib.hid hb
  have R1 := Lib.hid hR
  have s1 := hb.size
  clear hb hR
  go_wp2_with fail
  refine (l71Vv_any g 0 _ R1.out (by omega)).mono ?_
  rintro e w2 ⟨b, x0, x1, x2, hG, hb, hT, ⟨p2, hp2, hR⟩, he⟩
  have B2 := Lib.hid (B1.out.trans (hG.below hg s1))
  have T2 := Lib.hid hT
  clear hG hT hR
  rcases he with rfl | rfl
  · go_wp2
    go_ret
    exact ⟨_, 3, 3, _, rfl, by omega, B2.out, Has.of T2.out.ints (by have := T2.out.lt; omega)⟩
  · go_wp2
    go_ret
    exact ⟨_, 2, 2, _, rfl, by omega, B2.out, Has.of T2.out.ints1 (by have := T2.out.lt; omega)⟩

set_option maxRecDepth 100000 in
set_option maxHeartbeats 1600000 in
theorem FnVvOne_walk (A A' : Option Addr) (n n' c c' : Nat) (zs zs' : List Int) (w : World) (h : Came w A n c zs) (h' : Came w A' n' c' zs') :
    Calls Tryd.prog 6 #[.slice A n c, .slice A' n' c'] w fun e w' => e = .returned (.bool true) ∧ Below w.heap.size w w' := by
  by_cases big : 1048576 < n
  · go_enter Tryd.func6, Tryd.ntmps6
    go_wp2
    go_ret
    exact ⟨rfl, Below.refl _ _⟩
  by_cases big' : 1048576 < n'
  · go_enter Tryd.func6, Tryd.ntmps6
    go_wp2
    go_ret
    exact ⟨rfl, Below.refl _ _⟩
  have H := Lib.hid h
  have H' := Lib.hid h'
  clear h h'
  go_enter Tryd.func6, Tryd.ntmps6
  go_wp2_with fail
  refine (DrawVvText_any A n c zs _ H.out).mono ?_
  rintro e w1 ⟨A1, n1, c1, xs, rfl, hn1, hb, hI⟩
  have B1 := Lib.hid hb
  replace H' := Lib.hid (H'.out.step hb)
  have I := Lib.hid hI
  clear hb hI H
  go_wp2_with fail
  refine (DrawVvOk_any A' n' c' zs' _ H'.out).mono ?_
  rintro e w2 ⟨A2, n2, c2, ys, rfl, hn2, _, hb, hJ⟩
  have B2 := Lib.hid (B1.out.trans (hb.mono B1.out.size))
  replace I := Lib.hid (I.out.step hb)
  have J := Lib.hid (Has.of hJ (Nat.le_refl _))
  clear hb hJ H'
  go_wp2_with fail
  refine (iVvText_any A1 n1 c1 xs _ I.out (by unfold maxLen; omega)).mono ?_
  rintro e w3 ⟨rfl, hb⟩
  have B3 := Lib.hid (B2.out.trans (hb.mono B2.out.size))
  replace I := Lib.hid (I.out.step hb)
  replace J := Lib.hid (J.out.step hb)
  clear hb
  go_wp2_with fail
  refine (iVvText_any A2 n2 c2 ys _ J.out (by unfold maxLen; omega)).mono ?_
  rintro e w4 ⟨rfl, hb⟩
  have B4 := Lib.hid (B3.out.trans (hb.mono B3.out.size))
  replace I := Lib.hid (I.out.step hb)
  replace J := Lib.hid (J.out.step hb)
  clear hb
  go_wp2_with fail
  refine (sVvText_any A1 n1 c1 xs _ I.out (by unfold maxLen; omega)).mono ?_
  rintro e w5 ⟨rfl, hb⟩
  have B5 := Lib.hid (B4.out.trans (hb.mono B4.out.size))
  replace I := Lib.hid (I.out.step hb)
  replace J := Lib.hid (J.out.step hb)
  clear hb
  by_cases k1 : vvOk xs = true
  · by_cases k2 : vvOk ys = true
    · have TE := Lib.hid (text_eq k1 k2)
      have e1 : (textV xs).toList.isEmpty = false := by rw [textV_yes k1]; exact out_ne k1
      have e2 : (textV ys).toList.isEmpty = false := by rw [textV_yes k2]; exact out_ne k2
      obtain ⟨tx, htx⟩ : ∃ tx, textV xs = tx := ⟨_, rfl⟩
      obtain ⟨ty, hty⟩ : ∃ ty, textV ys = ty := ⟨_, rfl⟩
      rw [htx] at TE e1 ⊢
      rw [hty] at TE e2 ⊢
      clear htx hty
      have z1 : (tx.toList == []) = false := by rw [← e1]; cases tx.toList <;> rfl
      have z2 : (ty.toList == []) = false := by rw [← e2]; cases ty.toList <;> rfl
      obtain ⟨z, hz⟩ : ∃ z, decide (xs = ys) = z := ⟨_, rfl⟩
      have ht : (tx.toList == ty.toList) = z := TE.out.trans hz
      have HZ := Lib.hid hz
      clear hz TE
      go_wp2_with fail
      refine (lvInts_h I.out J.out (by unfold maxLen; omega)).mono ?_
      rintro e w6 ⟨rfl, hb⟩
      rw [HZ.out]
      have B6 := Lib.hid (B5.out.trans (hb.mono B5.out.size))
      clear hb
      cases z
      · go_wp2
        go_ret
        exact ⟨rfl, B6.out⟩
      · go_wp2
        go_ret
        exact ⟨rfl, B6.out⟩
    · have k2' : vvOk ys = false := by simpa using k2
      rw [textV_no k2']
      clear k2
      have e1 : (textV xs).toList.isEmpty = false := by rw [textV_yes k1]; exact out_ne k1
      obtain ⟨tx, htx⟩ : ∃ tx, textV xs = tx := ⟨_, rfl⟩
      have HX := Lib.hid htx
      rw [htx] at e1 ⊢
      clear htx
      have z1 : (tx.toList == []) = false := by rw [← e1]; cases tx.toList <;> rfl
      clear e1
      go_wp2_with fail
      refine (sVvText_any A1 n1 c1 xs _ I.out (by unfold maxLen; omega)).mono ?_
      rintro e w6 ⟨rfl, hb⟩
      rw [HX.out]
      have B6 := Lib.hid (B5.out.trans (hb.mono B5.out.size))
      clear hb
      go_wp2
      go_ret
      exact ⟨rfl, B6.out⟩
  · have k1' : vvOk xs = false := by simpa using k1
    clear k1
    have TN := Lib.hid (textV_no k1')
    rw [TN.out]
    go_wp2_with fail
    refine (sVvText_any A1 n1 c1 xs _ I.out (by unfold maxLen; omega)).mono ?_
    rintro e w6 ⟨rfl, hb⟩
    rw [TN.out]
    have B6 := Lib.hid (B5.out.trans (hb.mono B5.out.size))
    clear hb
    go_wp2
    go_ret
    exact ⟨rfl, B6.out⟩

end Go.Proofs.YtkcoeeekeddgaaaDoor
