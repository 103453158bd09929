
/-
  The walk of the law FnSibThree. (Printed by gen/sibthree.py.)
-/
import Derived.Test.YtkcoeeekeddgaaaDoorSibD
import Derived.Test.YtkcoeeekeddgaaaDoorDrawS3
namespace Go.Proofs.YtkcoeeekeddgaaaDoor
open Go.RowKit Go.PlainAid

set_option maxRecDepth 100000 in
set_option maxHeartbeats 3200000 in
theorem FnSibThree_walk (A A' : Option Addr) (n n' c c' : Nat) (zs zs' : List Int) (w : World) (h : Came w A n c zs) (h' : Came w A' n' c' zs') :
    Calls Tryd.prog 8 #[.slice A n c, .slice A' n' c'] w fun e w' => e = .returned (.bool true) ∧ Below w.heap.size w w' := by
  by_cases big : 1048576 < n
  · go_enter Tryd.func8, Tryd.ntmps8
    go_wp2
    go_ret
    exact ⟨rfl, Below.refl _ _⟩
  by_cases big' : 1048576 < n'
  · go_enter Tryd.func8, Tryd.ntmps8
    go_wp2
    go_ret
    exact ⟨rfl, Below.refl _ _⟩
  have H := Lib.hid h
  have H' := Lib.hid h'
  clear h h'
  go_enter Tryd.func8, Tryd.ntmps8
  go_wp2_with fail
  refine (DrawSibCmp_any A n c zs _ H.out).mono ?_
  rintro e w0 ⟨A1, n1, c1, xs, g, t, A2, n2, c2, ys, g', u, rfl, hn1, ht, hn2, hu, hb, hI, hJ⟩
  have k1 := bel_alloc w0 (.cells #[.slice A1 n1 c1, .bool g, .string t] 31)
  have k2 := bel_alloc (w0.alloc (.cells #[.slice A1 n1 c1, .bool g, .string t] 31)) (.cells #[.slice A2 n2 c2, .bool g', .string u] 31)
  have B1 := Lib.hid ((hb.trans (k1.mono hb.size)).trans (k2.mono (hb.trans (k1.mono hb.size)).size))
  have HD := Lib.hid (((H'.out.below hb).below k1).below k2)
  have HA := Lib.hid ((hI.step k1).step k2)
  have HB := Lib.hid ((hJ.step k1).step k2)
  have VA := Lib.hid ((Var3.new 31 w0 (.slice A1 n1 c1) (.bool g) (.string t)).step k2)
  have VB : Hid (Var3 31 ((w0.alloc (.cells #[.slice A1 n1 c1, .bool g, .string t] 31)).alloc (.cells #[.slice A2 n2 c2, .bool g', .string u] 31)) (w0.heap.size + 1) (.slice A2 n2 c2) (.bool g') (.string u)) :=
    Lib.hid (by simpa using Var3.new 31 (w0.alloc (.cells #[.slice A1 n1 c1, .bool g, .string t] 31)) (.slice A2 n2 c2) (.bool g') (.string u))
  clear hb hI hJ k1 k2 H H'
  go_wp2_with fail
  refine (iSibCmp_any A1 A2 n1 n2 c1 c2 xs ys g g' t u _ HA.out HB.out (by unfold maxLen; omega) (by unfold maxLen; omega)).mono ?_
  rintro e w2 ⟨rfl, hb⟩
  have B2 := Lib.hid (B1.out.trans (hb.mono B1.out.size))
  replace HA := Lib.hid (HA.out.step hb)
  replace HB := Lib.hid (HB.out.step hb)
  replace VA := Lib.hid (VA.out.step hb)
  replace VB := Lib.hid (VB.out.step hb)
  replace HD := Lib.hid (HD.out.below hb)
  clear hb
  have VA0 := VA.out.c0
  have VA1 := VA.out.c1
  have VA2 := VA.out.c2
  have VB0 := VB.out.c0
  have VB1 := VB.out.c1
  have VB2 := VB.out.c2
  go_wp2_with fail
  refine (sSibCmp_any A1 A2 n1 n2 c1 c2 xs ys g g' t u _ HA.out HB.out (by unfold maxLen; omega) (by unfold maxLen; omega) (by unfold maxLen; omega) (by unfold maxLen; omega)).mono ?_
  rintro e w3 ⟨rfl, hb⟩
  clear VA0 VA1 VA2 VB0 VB1 VB2
  have B3 := Lib.hid (B2.out.trans (hb.mono B2.out.size))
  replace HA := Lib.hid (HA.out.step hb)
  replace HB := Lib.hid (HB.out.step hb)
  replace VA := Lib.hid (VA.out.step hb)
  replace VB := Lib.hid (VB.out.step hb)
  replace HD := Lib.hid (HD.out.below hb)
  clear hb
  have VA0 := VA.out.c0
  have VA1 := VA.out.c1
  have VA2 := VA.out.c2
  have VB0 := VB.out.c0
  have VB1 := VB.out.c1
  have VB2 := VB.out.c2
  go_wp2_with fail
  refine (sSibOk_any A1 n1 c1 xs g t _ HA.out (by unfold maxLen; omega) (by unfold maxLen; omega)).mono ?_
  rintro e w4 ⟨rfl, hb⟩
  clear VA0 VA1 VA2 VB0 VB1 VB2
  have B4 := Lib.hid (B3.out.trans (hb.mono B3.out.size))
  replace HA := Lib.hid (HA.out.step hb)
  replace HB := Lib.hid (HB.out.step hb)
  replace VA := Lib.hid (VA.out.step hb)
  replace VB := Lib.hid (VB.out.step hb)
  replace HD := Lib.hid (HD.out.below hb)
  clear hb
  by_cases k1 : sibOk ⟨xs, g, t⟩ = true
  · skip
    have VA0 := VA.out.c0
    have VA1 := VA.out.c1
    have VA2 := VA.out.c2
    have VB0 := VB.out.c0
    have VB1 := VB.out.c1
    have VB2 := VB.out.c2
    go_wp2_with fail
    refine (sSibOk_any A2 n2 c2 ys g' u _ HB.out (by unfold maxLen; omega) (by unfold maxLen; omega)).mono ?_
    rintro e w5 ⟨rfl, hb⟩
    clear VA0 VA1 VA2 VB0 VB1 VB2
    have B5 := Lib.hid (B4.out.trans (hb.mono B4.out.size))
    replace HA := Lib.hid (HA.out.step hb)
    replace HB := Lib.hid (HB.out.step hb)
    replace VA := Lib.hid (VA.out.step hb)
    replace VB := Lib.hid (VB.out.step hb)
    replace HD := Lib.hid (HD.out.below hb)
    clear hb
    by_cases k2 : sibOk ⟨ys, g', u⟩ = true
    · skip
      have VA0 := VA.out.c0
      have VA1 := VA.out.c1
      have VA2 := VA.out.c2
      have VB0 := VB.out.c0
      have VB1 := VB.out.c1
      have VB2 := VB.out.c2
      go_wp2_with fail
      refine (DrawSibCmp_any A' n' c' zs' _ HD.out).mono ?_
      rintro e x0 ⟨A3, n3, c3, zs3, g3, t3, A4, n4, c4, zs4, g4, t4, rfl, hn3, ht3, hn4, ht4, hb, hI, hJ⟩
      clear VA0 VA1 VA2 VB0 VB1 VB2
      have k3 := bel_alloc x0 (.cells #[.slice A3 n3 c3, .bool g3, .string t3] 31)
      have k4 := bel_alloc (x0.alloc (.cells #[.slice A3 n3 c3, .bool g3, .string t3] 31)) (.cells #[.slice A4 n4 c4, .bool g4, .string t4] 31)
      have kk := (hb.trans (k3.mono hb.size)).trans (k4.mono (hb.trans (k3.mono hb.size)).size)
      have B6 := Lib.hid (B5.out.trans (kk.mono B5.out.size))
      replace HA := Lib.hid (HA.out.step kk)
      replace HB := Lib.hid (HB.out.step kk)
      replace VA := Lib.hid (VA.out.step kk)
      replace VB := Lib.hid (VB.out.step kk)
      have HC := Lib.hid ((hI.step k3).step k4)
      have VC := Lib.hid ((Var3.new 31 x0 (.slice A3 n3 c3) (.bool g3) (.string t3)).step k4)
      clear hb hI hJ k3 k4 kk
      go_wp2_with fail
      refine (iSibOk_any A3 n3 c3 zs3 g3 t3 _ HC.out (by unfold maxLen; omega)).mono ?_
      rintro e w7 ⟨rfl, hb⟩
      have B7 := Lib.hid (B6.out.trans (hb.mono B6.out.size))
      replace HA := Lib.hid (HA.out.step hb)
      replace HB := Lib.hid (HB.out.step hb)
      replace HC := Lib.hid (HC.out.step hb)
      replace VA := Lib.hid (VA.out.step hb)
      replace VB := Lib.hid (VB.out.step hb)
      replace VC := Lib.hid (VC.out.step hb)
      clear hb
      by_cases k3 : sibOk ⟨zs3, g3, t3⟩ = true
      · skip
        by_cases q1 : cmpOk ⟨xs, g, t⟩ ⟨ys, g', u⟩ = -1
        · skip
          have VA0 := VA.out.c0
          have VA1 := VA.out.c1
          have VA2 := VA.out.c2
          have VB0 := VB.out.c0
          have VB1 := VB.out.c1
          have VB2 := VB.out.c2
          have VC0 := VC.out.c0
          have VC1 := VC.out.c1
          have VC2 := VC.out.c2
          go_wp2_with fail
          refine (iSibCmp_any A2 A3 n2 n3 c2 c3 ys zs3 g' g3 u t3 _ HB.out HC.out (by unfold maxLen; omega) (by unfold maxLen; omega)).mono ?_
          rintro e w8 ⟨rfl, hb⟩
          clear VA0 VA1 VA2 VB0 VB1 VB2 VC0 VC1 VC2
          have B8 := Lib.hid (B7.out.trans (hb.mono B7.out.size))
          replace HA := Lib.hid (HA.out.step hb)
          replace HB := Lib.hid (HB.out.step hb)
          replace HC := Lib.hid (HC.out.step hb)
          replace VA := Lib.hid (VA.out.step hb)
          replace VB := Lib.hid (VB.out.step hb)
          replace VC := Lib.hid (VC.out.step hb)
          clear hb
          by_cases q2 : cmpOk ⟨ys, g', u⟩ ⟨zs3, g3, t3⟩ = -1
          · skip
            have q3 : cmpOk ⟨xs, g, t⟩ ⟨zs3, g3, t3⟩ = -1 := by
              simp only [cmpOk, k1, k2, k3, Bool.and_self, if_true] at q1 q2 ⊢
              exact cmpS_good.trans _ _ _ q1 q2
            have VA0 := VA.out.c0
            have VA1 := VA.out.c1
            have VA2 := VA.out.c2
            have VB0 := VB.out.c0
            have VB1 := VB.out.c1
            have VB2 := VB.out.c2
            have VC0 := VC.out.c0
            have VC1 := VC.out.c1
            have VC2 := VC.out.c2
            go_wp2_with fail
            refine (iSibCmp_any A1 A3 n1 n3 c1 c3 xs zs3 g g3 t t3 _ HA.out HC.out (by unfold maxLen; omega) (by unfold maxLen; omega)).mono ?_
            rintro e w9 ⟨rfl, hb⟩
            clear VA0 VA1 VA2 VB0 VB1 VB2 VC0 VC1 VC2
            have B9 := Lib.hid (B8.out.trans (hb.mono B8.out.size))
            replace HA := Lib.hid (HA.out.step hb)
            replace HB := Lib.hid (HB.out.step hb)
            replace HC := Lib.hid (HC.out.step hb)
            replace VA := Lib.hid (VA.out.step hb)
            replace VB := Lib.hid (VB.out.step hb)
            replace VC := Lib.hid (VC.out.step hb)
            clear hb
            go_wp2
            go_ret
            exact ⟨rfl, B9.out⟩
          · have q2' : (cmpOk ⟨ys, g', u⟩ ⟨zs3, g3, t3⟩ != -1) = true := by simpa using q2
            clear q2
            go_wp2
            go_ret
            exact ⟨rfl, B8.out⟩
        · have q1' : (cmpOk ⟨xs, g, t⟩ ⟨ys, g', u⟩ != -1) = true := by simpa using q1
          clear q1
          go_wp2
          go_ret
          exact ⟨rfl, B7.out⟩
      · have k3' : sibOk ⟨zs3, g3, t3⟩ = false := by simpa using k3
        clear k3
        go_wp2
        go_ret
        exact ⟨rfl, B7.out⟩
    · have k2' : sibOk ⟨ys, g', u⟩ = false := by simpa using k2
      clear k2
      have VA0 := VA.out.c0
      have VA1 := VA.out.c1
      have VA2 := VA.out.c2
      have VB0 := VB.out.c0
      have VB1 := VB.out.c1
      have VB2 := VB.out.c2
      go_wp2_with fail
      refine (sSibCmp_any A1 A2 n1 n2 c1 c2 xs ys g g' t u _ HA.out HB.out (by unfold maxLen; omega) (by unfold maxLen; omega) (by unfold maxLen; omega) (by unfold maxLen; omega)).mono ?_
      rintro e w6 ⟨rfl, hb⟩
      clear VA0 VA1 VA2 VB0 VB1 VB2
      have B6 := Lib.hid (B5.out.trans (hb.mono B5.out.size))
      replace HA := Lib.hid (HA.out.step hb)
      replace HB := Lib.hid (HB.out.step hb)
      replace VA := Lib.hid (VA.out.step hb)
      replace VB := Lib.hid (VB.out.step hb)
      clear hb
      go_wp2
      go_ret
      exact ⟨ret_bool (by simp), B6.out⟩
  · have k1' : sibOk ⟨xs, g, t⟩ = false := by simpa using k1
    clear k1
    have VA0 := VA.out.c0
    have VA1 := VA.out.c1
    have VA2 := VA.out.c2
    have VB0 := VB.out.c0
    have VB1 := VB.out.c1
    have VB2 := VB.out.c2
    go_wp2_with fail
    refine (sSibCmp_any A1 A2 n1 n2 c1 c2 xs ys g g' t u _ HA.out HB.out (by unfold maxLen; omega) (by unfold maxLen; omega) (by unfold maxLen; omega) (by unfold maxLen; omega)).mono ?_
    rintro e w5 ⟨rfl, hb⟩
    clear VA0 VA1 VA2 VB0 VB1 VB2
    have B5 := Lib.hid (B4.out.trans (hb.mono B4.out.size))
    replace HA := Lib.hid (HA.out.step hb)
    replace HB := Lib.hid (HB.out.step hb)
    replace VA := Lib.hid (VA.out.step hb)
    replace VB := Lib.hid (VB.out.step hb)
    clear hb
    go_wp2
    go_ret
    exact ⟨ret_bool (by simp), B5.out⟩

end Go.Proofs.YtkcoeeekeddgaaaDoor
