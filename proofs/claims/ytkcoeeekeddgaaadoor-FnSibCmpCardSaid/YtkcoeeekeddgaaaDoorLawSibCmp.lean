
/-
  The walk of the law FnSibCmp. (Printed by gen/sibcmp2.py.)
-/
import Derived.Test.YtkcoeeekeddgaaaDoorSibD
import Derived.Test.YtkcoeeekeddgaaaDoorSibL
import Derived.Test.YtkcoeeekeddgaaaDoorDrawS3
namespace Go.Proofs.YtkcoeeekeddgaaaDoor
open Go.RowKit Go.PlainAid

theorem toList_eq {t u : ByteArray} (h : t.toList = u.toList) : t = u := by
  rw [Lib.toList_data, Lib.toList_data] at h
  cases t; cases u; simp at h; simp [h]
theorem same_iff (xs ys : List Int) (g g' : Bool) (t u : ByteArray) : (decide (xs = ys) && (g == g') && (t.toList == u.toList)) = decide (cmpS ⟨xs, g, t⟩ ⟨ys, g', u⟩ = 0) := by
  rw [Bool.eq_iff_iff]
  simp only [Bool.and_eq_true, decide_eq_true_eq, beq_iff_eq]
  constructor
  · rintro ⟨⟨rfl, rfl⟩, h⟩
    obtain rfl := toList_eq h
    exact cmpS_good.same _
  · intro h
    have := cmpS_good.eq _ _ h
    simp only [Sb.mk.injEq] at this
    obtain ⟨rfl, rfl, rfl⟩ := this
    exact ⟨⟨rfl, rfl⟩, rfl⟩
theorem known_lt {xs ys : List Int} {g g' : Bool} {t u : ByteArray} (hx : vvOk xs = true) (hy : vvOk ys = true) (h1 : vvInOk xs ys = true) (h2 : vvInOk ys xs = false) : cmpS ⟨xs, g, t⟩ ⟨ys, g', u⟩ = -1 := by
  simp only [vvInOk, hx, hy, Bool.true_and] at h1 h2
  have h : cmpV xs ys = -1 := by
    obtain ⟨a, b, c, rfl, _⟩ := vvOk_form hx
    obtain ⟨a', b', c', rfl, _⟩ := vvOk_form hy
    rw [vvIn3] at h1
    have h3 : ¬ (a' ≤ a ∧ b' ≤ b ∧ c' ≤ c) := fun hh => by rw [vvIn3.2 hh] at h2; cases h2
    rw [cmpV3]
    repeat' split
    all_goals omega
  simp [cmpS, h]

set_option maxRecDepth 100000 in
set_option maxHeartbeats 3200000 in
theorem FnSibCmp_walk (A : Option Addr) (n c : Nat) (zs : List Int) (w : World) (h : Came w A n c zs) :
    Calls Tryd.prog 9 #[.slice A n c] w fun e w' => e = .returned (.bool true) ∧ Below w.heap.size w w' := by
  by_cases big : 1048576 < n
  · go_enter Tryd.func9, Tryd.ntmps9
    go_wp2
    go_ret
    exact ⟨rfl, Below.refl _ _⟩
  have H := Lib.hid h
  clear h
  go_enter Tryd.func9, Tryd.ntmps9
  go_wp2_with fail
  refine (DrawSibCmp_any A n c zs _ H.out).mono ?_
  rintro e w0 ⟨A1, n1, c1, xs, g, t, A2, n2, c2, ys, g', u, rfl, hn1, ht, hn2, hu, hb, hI, hJ⟩
  have k1 := bel_alloc w0 (.cells #[.slice A1 n1 c1, .bool g, .string t] 31)
  have k2 := bel_alloc (w0.alloc (.cells #[.slice A1 n1 c1, .bool g, .string t] 31)) (.cells #[.slice A2 n2 c2, .bool g', .string u] 31)
  have B1 := Lib.hid ((hb.trans (k1.mono hb.size)).trans (k2.mono (hb.trans (k1.mono hb.size)).size))
  have HA := Lib.hid ((hI.step k1).step k2)
  have HB := Lib.hid ((hJ.step k1).step k2)
  have VA := Lib.hid ((Var3.new 31 w0 (.slice A1 n1 c1) (.bool g) (.string t)).step k2)
  have VB : Hid (Var3 31 ((w0.alloc (.cells #[.slice A1 n1 c1, .bool g, .string t] 31)).alloc (.cells #[.slice A2 n2 c2, .bool g', .string u] 31)) (w0.heap.size + 1) (.slice A2 n2 c2) (.bool g') (.string u)) :=
    Lib.hid (by simpa using Var3.new 31 (w0.alloc (.cells #[.slice A1 n1 c1, .bool g, .string t] 31)) (.slice A2 n2 c2) (.bool g') (.string u))
  clear hb hI hJ k1 k2 H
  go_wp2_with fail
  refine (iSibCmp_any A1 A2 n1 n2 c1 c2 xs ys g g' t u _ HA.out HB.out (by unfold maxLen; omega) (by unfold maxLen; omega)).mono ?_
  rintro e w2 ⟨rfl, hb⟩
  have B2 := Lib.hid (B1.out.trans (hb.mono B1.out.size))
  replace HA := Lib.hid (HA.out.step hb)
  replace HB := Lib.hid (HB.out.step hb)
  replace VA := Lib.hid (VA.out.step hb)
  replace VB := Lib.hid (VB.out.step hb)
  clear hb
  have VA0 := VA.out.c0
  have VA1 := VA.out.c1
  have VA2 := VA.out.c2
  have VB0 := VB.out.c0
  have VB1 := VB.out.c1
  have VB2 := VB.out.c2
  go_wp2_with fail
  refine (sSibCmp_any A1 A2 n1 n2 c1 c2 xs ys g g' t u _ HA.out HB.out (by unfold maxLen; omega) (by unfold maxLen; omega) (by unfold maxLen; omega) (by unfold maxLen; omega)).mono ?_
  rintro e w3 ⟨rfl, hb⟩
  clear VA0 VA1 VA2 VB0 VB1 VB2
  have B3 := Lib.hid (B2.out.trans (hb.mono B2.out.size))
  replace HA := Lib.hid (HA.out.step hb)
  replace HB := Lib.hid (HB.out.step hb)
  replace VA := Lib.hid (VA.out.step hb)
  replace VB := Lib.hid (VB.out.step hb)
  clear hb
  have VA0 := VA.out.c0
  have VA1 := VA.out.c1
  have VA2 := VA.out.c2
  have VB0 := VB.out.c0
  have VB1 := VB.out.c1
  have VB2 := VB.out.c2
  go_wp2_with fail
  refine (sSibOk_any A1 n1 c1 xs g t _ HA.out (by unfold maxLen; omega) (by unfold maxLen; omega)).mono ?_
  rintro e w4 ⟨rfl, hb⟩
  clear VA0 VA1 VA2 VB0 VB1 VB2
  have B4 := Lib.hid (B3.out.trans (hb.mono B3.out.size))
  replace HA := Lib.hid (HA.out.step hb)
  replace HB := Lib.hid (HB.out.step hb)
  replace VA := Lib.hid (VA.out.step hb)
  replace VB := Lib.hid (VB.out.step hb)
  clear hb
  by_cases k1 : sibOk ⟨xs, g, t⟩ = true
  · skip
    have VA0 := VA.out.c0
    have VA1 := VA.out.c1
    have VA2 := VA.out.c2
    have VB0 := VB.out.c0
    have VB1 := VB.out.c1
    have VB2 := VB.out.c2
    go_wp2_with fail
    refine (sSibOk_any A2 n2 c2 ys g' u _ HB.out (by unfold maxLen; omega) (by unfold maxLen; omega)).mono ?_
    rintro e w5 ⟨rfl, hb⟩
    clear VA0 VA1 VA2 VB0 VB1 VB2
    have B5 := Lib.hid (B4.out.trans (hb.mono B4.out.size))
    replace HA := Lib.hid (HA.out.step hb)
    replace HB := Lib.hid (HB.out.step hb)
    replace VA := Lib.hid (VA.out.step hb)
    replace VB := Lib.hid (VB.out.step hb)
    clear hb
    by_cases k2 : sibOk ⟨ys, g', u⟩ = true
    · skip
      have hN : cmpOk ⟨xs, g, t⟩ ⟨ys, g', u⟩ = cmpS ⟨xs, g, t⟩ ⟨ys, g', u⟩ := by simp [cmpOk, k1, k2]
      have hM : cmpOk ⟨ys, g', u⟩ ⟨xs, g, t⟩ = - cmpS ⟨xs, g, t⟩ ⟨ys, g', u⟩ := by simp only [cmpOk, k1, k2, Bool.and_self, if_true]; exact cmpS_good.anti _ _
      have hS := same_iff xs ys g g' t u
      have HK := Lib.hid (known_lt (g := g) (g' := g') (t := t) (u := u) (sibOk_vv k1) (sibOk_vv k2))
      rcases cmpS_good.one ⟨xs, g, t⟩ ⟨ys, g', u⟩ with hc | hc | hc
      · skip
        have r1 : cmpOk ⟨xs, g, t⟩ ⟨ys, g', u⟩ = -1 := hN.trans hc
        have r2 : cmpOk ⟨ys, g', u⟩ ⟨xs, g, t⟩ = 1 := by simp [hM, hc]
        have r3 : (decide (xs = ys) && (g == g') && (t.toList == u.toList)) = false := by rw [hS, hc]; rfl
        have HC := Lib.hid hc
        clear hN hM hS hc
        by_cases e1 : vvInOk xs ys = true
        · skip
          have VA0 := VA.out.c0
          have VA1 := VA.out.c1
          have VA2 := VA.out.c2
          have VB0 := VB.out.c0
          have VB1 := VB.out.c1
          have VB2 := VB.out.c2
          go_wp2_with fail
          refine (iVvIn_h HA.out HB.out (by unfold maxLen; omega) (by unfold maxLen; omega)).mono ?_
          rintro e w6 ⟨rfl, hb⟩
          clear VA0 VA1 VA2 VB0 VB1 VB2
          have B6 := Lib.hid (B5.out.trans (hb.mono B5.out.size))
          replace HA := Lib.hid (HA.out.step hb)
          replace HB := Lib.hid (HB.out.step hb)
          replace VA := Lib.hid (VA.out.step hb)
          replace VB := Lib.hid (VB.out.step hb)
          clear hb
          by_cases e2 : vvInOk ys xs = true
          · skip
            have VA0 := VA.out.c0
            have VA1 := VA.out.c1
            have VA2 := VA.out.c2
            have VB0 := VB.out.c0
            have VB1 := VB.out.c1
            have VB2 := VB.out.c2
            go_wp2_with fail
            refine (iVvIn_h HB.out HA.out (by unfold maxLen; omega) (by unfold maxLen; omega)).mono ?_
            rintro e w7 ⟨rfl, hb⟩
            clear VA0 VA1 VA2 VB0 VB1 VB2
            have B7 := Lib.hid (B6.out.trans (hb.mono B6.out.size))
            replace HA := Lib.hid (HA.out.step hb)
            replace HB := Lib.hid (HB.out.step hb)
            replace VA := Lib.hid (VA.out.step hb)
            replace VB := Lib.hid (VB.out.step hb)
            clear hb
            have VA0 := VA.out.c0
            have VA1 := VA.out.c1
            have VA2 := VA.out.c2
            have VB0 := VB.out.c0
            have VB1 := VB.out.c1
            have VB2 := VB.out.c2
            go_wp2_with fail
            refine (iSibCmp_any A2 A1 n2 n1 c2 c1 ys xs g' g u t _ HB.out HA.out (by unfold maxLen; omega) (by unfold maxLen; omega)).mono ?_
            rintro e w8 ⟨rfl, hb⟩
            clear VA0 VA1 VA2 VB0 VB1 VB2
            have B8 := Lib.hid (B7.out.trans (hb.mono B7.out.size))
            replace HA := Lib.hid (HA.out.step hb)
            replace HB := Lib.hid (HB.out.step hb)
            replace VA := Lib.hid (VA.out.step hb)
            replace VB := Lib.hid (VB.out.step hb)
            clear hb
            have VA0 := VA.out.c0
            have VA1 := VA.out.c1
            have VA2 := VA.out.c2
            have VB0 := VB.out.c0
            have VB1 := VB.out.c1
            have VB2 := VB.out.c2
            go_wp2_with fail
            refine (lvSib_any A1 A2 n1 n2 c1 c2 xs ys g g' t u _ HA.out HB.out (by unfold maxLen; omega)).mono ?_
            rintro e w9 ⟨rfl, hb⟩
            clear VA0 VA1 VA2 VB0 VB1 VB2
            have B9 := Lib.hid (B8.out.trans (hb.mono B8.out.size))
            replace HA := Lib.hid (HA.out.step hb)
            replace HB := Lib.hid (HB.out.step hb)
            replace VA := Lib.hid (VA.out.step hb)
            replace VB := Lib.hid (VB.out.step hb)
            clear hb
            try rw [r3]
            go_wp2
            go_ret
            exact ⟨rfl, B9.out⟩
          · have e2' : vvInOk ys xs = false := by simpa using e2
            clear e2
            have VA0 := VA.out.c0
            have VA1 := VA.out.c1
            have VA2 := VA.out.c2
            have VB0 := VB.out.c0
            have VB1 := VB.out.c1
            have VB2 := VB.out.c2
            go_wp2_with fail
            refine (iVvIn_h HB.out HA.out (by unfold maxLen; omega) (by unfold maxLen; omega)).mono ?_
            rintro e w7 ⟨rfl, hb⟩
            clear VA0 VA1 VA2 VB0 VB1 VB2
            have B7 := Lib.hid (B6.out.trans (hb.mono B6.out.size))
            replace HA := Lib.hid (HA.out.step hb)
            replace HB := Lib.hid (HB.out.step hb)
            replace VA := Lib.hid (VA.out.step hb)
            replace VB := Lib.hid (VB.out.step hb)
            clear hb
            have VA0 := VA.out.c0
            have VA1 := VA.out.c1
            have VA2 := VA.out.c2
            have VB0 := VB.out.c0
            have VB1 := VB.out.c1
            have VB2 := VB.out.c2
            go_wp2_with fail
            refine (iSibCmp_any A2 A1 n2 n1 c2 c1 ys xs g' g u t _ HB.out HA.out (by unfold maxLen; omega) (by unfold maxLen; omega)).mono ?_
            rintro e w8 ⟨rfl, hb⟩
            clear VA0 VA1 VA2 VB0 VB1 VB2
            have B8 := Lib.hid (B7.out.trans (hb.mono B7.out.size))
            replace HA := Lib.hid (HA.out.step hb)
            replace HB := Lib.hid (HB.out.step hb)
            replace VA := Lib.hid (VA.out.step hb)
            replace VB := Lib.hid (VB.out.step hb)
            clear hb
            have VA0 := VA.out.c0
            have VA1 := VA.out.c1
            have VA2 := VA.out.c2
            have VB0 := VB.out.c0
            have VB1 := VB.out.c1
            have VB2 := VB.out.c2
            go_wp2_with fail
            refine (lvSib_any A1 A2 n1 n2 c1 c2 xs ys g g' t u _ HA.out HB.out (by unfold maxLen; omega)).mono ?_
            rintro e w9 ⟨rfl, hb⟩
            clear VA0 VA1 VA2 VB0 VB1 VB2
            have B9 := Lib.hid (B8.out.trans (hb.mono B8.out.size))
            replace HA := Lib.hid (HA.out.step hb)
            replace HB := Lib.hid (HB.out.step hb)
            replace VA := Lib.hid (VA.out.step hb)
            replace VB := Lib.hid (VB.out.step hb)
            clear hb
            try rw [r3]
            go_wp2
            go_ret
            exact ⟨rfl, B9.out⟩
        · have e1' : vvInOk xs ys = false := by simpa using e1
          clear e1
          have VA0 := VA.out.c0
          have VA1 := VA.out.c1
          have VA2 := VA.out.c2
          have VB0 := VB.out.c0
          have VB1 := VB.out.c1
          have VB2 := VB.out.c2
          go_wp2_with fail
          refine (iVvIn_h HA.out HB.out (by unfold maxLen; omega) (by unfold maxLen; omega)).mono ?_
          rintro e w6 ⟨rfl, hb⟩
          clear VA0 VA1 VA2 VB0 VB1 VB2
          have B6 := Lib.hid (B5.out.trans (hb.mono B5.out.size))
          replace HA := Lib.hid (HA.out.step hb)
          replace HB := Lib.hid (HB.out.step hb)
          replace VA := Lib.hid (VA.out.step hb)
          replace VB := Lib.hid (VB.out.step hb)
          clear hb
          have VA0 := VA.out.c0
          have VA1 := VA.out.c1
          have VA2 := VA.out.c2
          have VB0 := VB.out.c0
          have VB1 := VB.out.c1
          have VB2 := VB.out.c2
          go_wp2_with fail
          refine (iSibCmp_any A2 A1 n2 n1 c2 c1 ys xs g' g u t _ HB.out HA.out (by unfold maxLen; omega) (by unfold maxLen; omega)).mono ?_
          rintro e w7 ⟨rfl, hb⟩
          clear VA0 VA1 VA2 VB0 VB1 VB2
          have B7 := Lib.hid (B6.out.trans (hb.mono B6.out.size))
          replace HA := Lib.hid (HA.out.step hb)
          replace HB := Lib.hid (HB.out.step hb)
          replace VA := Lib.hid (VA.out.step hb)
          replace VB := Lib.hid (VB.out.step hb)
          clear hb
          have VA0 := VA.out.c0
          have VA1 := VA.out.c1
          have VA2 := VA.out.c2
          have VB0 := VB.out.c0
          have VB1 := VB.out.c1
          have VB2 := VB.out.c2
          go_wp2_with fail
          refine (lvSib_any A1 A2 n1 n2 c1 c2 xs ys g g' t u _ HA.out HB.out (by unfold maxLen; omega)).mono ?_
          rintro e w8 ⟨rfl, hb⟩
          clear VA0 VA1 VA2 VB0 VB1 VB2
          have B8 := Lib.hid (B7.out.trans (hb.mono B7.out.size))
          replace HA := Lib.hid (HA.out.step hb)
          replace HB := Lib.hid (HB.out.step hb)
          replace VA := Lib.hid (VA.out.step hb)
          replace VB := Lib.hid (VB.out.step hb)
          clear hb
          try rw [r3]
          go_wp2
          go_ret
          exact ⟨rfl, B8.out⟩
      · skip
        have r1 : cmpOk ⟨xs, g, t⟩ ⟨ys, g', u⟩ = 0 := hN.trans hc
        have r2 : cmpOk ⟨ys, g', u⟩ ⟨xs, g, t⟩ = 0 := by simp [hM, hc]
        have r3 : (decide (xs = ys) && (g == g') && (t.toList == u.toList)) = true := by rw [hS, hc]; rfl
        have HC := Lib.hid hc
        clear hN hM hS hc
        by_cases e1 : vvInOk xs ys = true
        · skip
          have VA0 := VA.out.c0
          have VA1 := VA.out.c1
          have VA2 := VA.out.c2
          have VB0 := VB.out.c0
          have VB1 := VB.out.c1
          have VB2 := VB.out.c2
          go_wp2_with fail
          refine (iVvIn_h HA.out HB.out (by unfold maxLen; omega) (by unfold maxLen; omega)).mono ?_
          rintro e w6 ⟨rfl, hb⟩
          clear VA0 VA1 VA2 VB0 VB1 VB2
          have B6 := Lib.hid (B5.out.trans (hb.mono B5.out.size))
          replace HA := Lib.hid (HA.out.step hb)
          replace HB := Lib.hid (HB.out.step hb)
          replace VA := Lib.hid (VA.out.step hb)
          replace VB := Lib.hid (VB.out.step hb)
          clear hb
          by_cases e2 : vvInOk ys xs = true
          · skip
            have VA0 := VA.out.c0
            have VA1 := VA.out.c1
            have VA2 := VA.out.c2
            have VB0 := VB.out.c0
            have VB1 := VB.out.c1
            have VB2 := VB.out.c2
            go_wp2_with fail
            refine (iVvIn_h HB.out HA.out (by unfold maxLen; omega) (by unfold maxLen; omega)).mono ?_
            rintro e w7 ⟨rfl, hb⟩
            clear VA0 VA1 VA2 VB0 VB1 VB2
            have B7 := Lib.hid (B6.out.trans (hb.mono B6.out.size))
            replace HA := Lib.hid (HA.out.step hb)
            replace HB := Lib.hid (HB.out.step hb)
            replace VA := Lib.hid (VA.out.step hb)
            replace VB := Lib.hid (VB.out.step hb)
            clear hb
            have VA0 := VA.out.c0
            have VA1 := VA.out.c1
            have VA2 := VA.out.c2
            have VB0 := VB.out.c0
            have VB1 := VB.out.c1
            have VB2 := VB.out.c2
            go_wp2_with fail
            refine (iSibCmp_any A2 A1 n2 n1 c2 c1 ys xs g' g u t _ HB.out HA.out (by unfold maxLen; omega) (by unfold maxLen; omega)).mono ?_
            rintro e w8 ⟨rfl, hb⟩
            clear VA0 VA1 VA2 VB0 VB1 VB2
            have B8 := Lib.hid (B7.out.trans (hb.mono B7.out.size))
            replace HA := Lib.hid (HA.out.step hb)
            replace HB := Lib.hid (HB.out.step hb)
            replace VA := Lib.hid (VA.out.step hb)
            replace VB := Lib.hid (VB.out.step hb)
            clear hb
            have VA0 := VA.out.c0
            have VA1 := VA.out.c1
            have VA2 := VA.out.c2
            have VB0 := VB.out.c0
            have VB1 := VB.out.c1
            have VB2 := VB.out.c2
            go_wp2_with fail
            refine (lvSib_any A1 A2 n1 n2 c1 c2 xs ys g g' t u _ HA.out HB.out (by unfold maxLen; omega)).mono ?_
            rintro e w9 ⟨rfl, hb⟩
            clear VA0 VA1 VA2 VB0 VB1 VB2
            have B9 := Lib.hid (B8.out.trans (hb.mono B8.out.size))
            replace HA := Lib.hid (HA.out.step hb)
            replace HB := Lib.hid (HB.out.step hb)
            replace VA := Lib.hid (VA.out.step hb)
            replace VB := Lib.hid (VB.out.step hb)
            clear hb
            try rw [r3]
            go_wp2
            go_ret
            exact ⟨rfl, B9.out⟩
          · have e2' : vvInOk ys xs = false := by simpa using e2
            have := HK.out e1 e2'
            have := HC.out
            omega
        · have e1' : vvInOk xs ys = false := by simpa using e1
          clear e1
          have VA0 := VA.out.c0
          have VA1 := VA.out.c1
          have VA2 := VA.out.c2
          have VB0 := VB.out.c0
          have VB1 := VB.out.c1
          have VB2 := VB.out.c2
          go_wp2_with fail
          refine (iVvIn_h HA.out HB.out (by unfold maxLen; omega) (by unfold maxLen; omega)).mono ?_
          rintro e w6 ⟨rfl, hb⟩
          clear VA0 VA1 VA2 VB0 VB1 VB2
          have B6 := Lib.hid (B5.out.trans (hb.mono B5.out.size))
          replace HA := Lib.hid (HA.out.step hb)
          replace HB := Lib.hid (HB.out.step hb)
          replace VA := Lib.hid (VA.out.step hb)
          replace VB := Lib.hid (VB.out.step hb)
          clear hb
          have VA0 := VA.out.c0
          have VA1 := VA.out.c1
          have VA2 := VA.out.c2
          have VB0 := VB.out.c0
          have VB1 := VB.out.c1
          have VB2 := VB.out.c2
          go_wp2_with fail
          refine (iSibCmp_any A2 A1 n2 n1 c2 c1 ys xs g' g u t _ HB.out HA.out (by unfold maxLen; omega) (by unfold maxLen; omega)).mono ?_
          rintro e w7 ⟨rfl, hb⟩
          clear VA0 VA1 VA2 VB0 VB1 VB2
          have B7 := Lib.hid (B6.out.trans (hb.mono B6.out.size))
          replace HA := Lib.hid (HA.out.step hb)
          replace HB := Lib.hid (HB.out.step hb)
          replace VA := Lib.hid (VA.out.step hb)
          replace VB := Lib.hid (VB.out.step hb)
          clear hb
          have VA0 := VA.out.c0
          have VA1 := VA.out.c1
          have VA2 := VA.out.c2
          have VB0 := VB.out.c0
          have VB1 := VB.out.c1
          have VB2 := VB.out.c2
          go_wp2_with fail
          refine (lvSib_any A1 A2 n1 n2 c1 c2 xs ys g g' t u _ HA.out HB.out (by unfold maxLen; omega)).mono ?_
          rintro e w8 ⟨rfl, hb⟩
          clear VA0 VA1 VA2 VB0 VB1 VB2
          have B8 := Lib.hid (B7.out.trans (hb.mono B7.out.size))
          replace HA := Lib.hid (HA.out.step hb)
          replace HB := Lib.hid (HB.out.step hb)
          replace VA := Lib.hid (VA.out.step hb)
          replace VB := Lib.hid (VB.out.step hb)
          clear hb
          try rw [r3]
          go_wp2
          go_ret
          exact ⟨rfl, B8.out⟩
      · skip
        have r1 : cmpOk ⟨xs, g, t⟩ ⟨ys, g', u⟩ = 1 := hN.trans hc
        have r2 : cmpOk ⟨ys, g', u⟩ ⟨xs, g, t⟩ = -1 := by simp [hM, hc]
        have r3 : (decide (xs = ys) && (g == g') && (t.toList == u.toList)) = false := by rw [hS, hc]; rfl
        have HC := Lib.hid hc
        clear hN hM hS hc
        by_cases e1 : vvInOk xs ys = true
        · skip
          have VA0 := VA.out.c0
          have VA1 := VA.out.c1
          have VA2 := VA.out.c2
          have VB0 := VB.out.c0
          have VB1 := VB.out.c1
          have VB2 := VB.out.c2
          go_wp2_with fail
          refine (iVvIn_h HA.out HB.out (by unfold maxLen; omega) (by unfold maxLen; omega)).mono ?_
          rintro e w6 ⟨rfl, hb⟩
          clear VA0 VA1 VA2 VB0 VB1 VB2
          have B6 := Lib.hid (B5.out.trans (hb.mono B5.out.size))
          replace HA := Lib.hid (HA.out.step hb)
          replace HB := Lib.hid (HB.out.step hb)
          replace VA := Lib.hid (VA.out.step hb)
          replace VB := Lib.hid (VB.out.step hb)
          clear hb
          by_cases e2 : vvInOk ys xs = true
          · skip
            have VA0 := VA.out.c0
            have VA1 := VA.out.c1
            have VA2 := VA.out.c2
            have VB0 := VB.out.c0
            have VB1 := VB.out.c1
            have VB2 := VB.out.c2
            go_wp2_with fail
            refine (iVvIn_h HB.out HA.out (by unfold maxLen; omega) (by unfold maxLen; omega)).mono ?_
            rintro e w7 ⟨rfl, hb⟩
            clear VA0 VA1 VA2 VB0 VB1 VB2
            have B7 := Lib.hid (B6.out.trans (hb.mono B6.out.size))
            replace HA := Lib.hid (HA.out.step hb)
            replace HB := Lib.hid (HB.out.step hb)
            replace VA := Lib.hid (VA.out.step hb)
            replace VB := Lib.hid (VB.out.step hb)
            clear hb
            have VA0 := VA.out.c0
            have VA1 := VA.out.c1
            have VA2 := VA.out.c2
            have VB0 := VB.out.c0
            have VB1 := VB.out.c1
            have VB2 := VB.out.c2
            go_wp2_with fail
            refine (iSibCmp_any A2 A1 n2 n1 c2 c1 ys xs g' g u t _ HB.out HA.out (by unfold maxLen; omega) (by unfold maxLen; omega)).mono ?_
            rintro e w8 ⟨rfl, hb⟩
            clear VA0 VA1 VA2 VB0 VB1 VB2
            have B8 := Lib.hid (B7.out.trans (hb.mono B7.out.size))
            replace HA := Lib.hid (HA.out.step hb)
            replace HB := Lib.hid (HB.out.step hb)
            replace VA := Lib.hid (VA.out.step hb)
            replace VB := Lib.hid (VB.out.step hb)
            clear hb
            have VA0 := VA.out.c0
            have VA1 := VA.out.c1
            have VA2 := VA.out.c2
            have VB0 := VB.out.c0
            have VB1 := VB.out.c1
            have VB2 := VB.out.c2
            go_wp2_with fail
            refine (lvSib_any A1 A2 n1 n2 c1 c2 xs ys g g' t u _ HA.out HB.out (by unfold maxLen; omega)).mono ?_
            rintro e w9 ⟨rfl, hb⟩
            clear VA0 VA1 VA2 VB0 VB1 VB2
            have B9 := Lib.hid (B8.out.trans (hb.mono B8.out.size))
            replace HA := Lib.hid (HA.out.step hb)
            replace HB := Lib.hid (HB.out.step hb)
            replace VA := Lib.hid (VA.out.step hb)
            replace VB := Lib.hid (VB.out.step hb)
            clear hb
            try rw [r3]
            go_wp2
            go_ret
            exact ⟨rfl, B9.out⟩
          · have e2' : vvInOk ys xs = false := by simpa using e2
            have := HK.out e1 e2'
            have := HC.out
            omega
        · have e1' : vvInOk xs ys = false := by simpa using e1
          clear e1
          have VA0 := VA.out.c0
          have VA1 := VA.out.c1
          have VA2 := VA.out.c2
          have VB0 := VB.out.c0
          have VB1 := VB.out.c1
          have VB2 := VB.out.c2
          go_wp2_with fail
          refine (iVvIn_h HA.out HB.out (by unfold maxLen; omega) (by unfold maxLen; omega)).mono ?_
          rintro e w6 ⟨rfl, hb⟩
          clear VA0 VA1 VA2 VB0 VB1 VB2
          have B6 := Lib.hid (B5.out.trans (hb.mono B5.out.size))
          replace HA := Lib.hid (HA.out.step hb)
          replace HB := Lib.hid (HB.out.step hb)
          replace VA := Lib.hid (VA.out.step hb)
          replace VB := Lib.hid (VB.out.step hb)
          clear hb
          have VA0 := VA.out.c0
          have VA1 := VA.out.c1
          have VA2 := VA.out.c2
          have VB0 := VB.out.c0
          have VB1 := VB.out.c1
          have VB2 := VB.out.c2
          go_wp2_with fail
          refine (iSibCmp_any A2 A1 n2 n1 c2 c1 ys xs g' g u t _ HB.out HA.out (by unfold maxLen; omega) (by unfold maxLen; omega)).mono ?_
          rintro e w7 ⟨rfl, hb⟩
          clear VA0 VA1 VA2 VB0 VB1 VB2
          have B7 := Lib.hid (B6.out.trans (hb.mono B6.out.size))
          replace HA := Lib.hid (HA.out.step hb)
          replace HB := Lib.hid (HB.out.step hb)
          replace VA := Lib.hid (VA.out.step hb)
          replace VB := Lib.hid (VB.out.step hb)
          clear hb
          have VA0 := VA.out.c0
          have VA1 := VA.out.c1
          have VA2 := VA.out.c2
          have VB0 := VB.out.c0
          have VB1 := VB.out.c1
          have VB2 := VB.out.c2
          go_wp2_with fail
          refine (lvSib_any A1 A2 n1 n2 c1 c2 xs ys g g' t u _ HA.out HB.out (by unfold maxLen; omega)).mono ?_
          rintro e w8 ⟨rfl, hb⟩
          clear VA0 VA1 VA2 VB0 VB1 VB2
          have B8 := Lib.hid (B7.out.trans (hb.mono B7.out.size))
          replace HA := Lib.hid (HA.out.step hb)
          replace HB := Lib.hid (HB.out.step hb)
          replace VA := Lib.hid (VA.out.step hb)
          replace VB := Lib.hid (VB.out.step hb)
          clear hb
          try rw [r3]
          go_wp2
          go_ret
          exact ⟨rfl, B8.out⟩
    · have k2' : sibOk ⟨ys, g', u⟩ = false := by simpa using k2
      clear k2
      have VA0 := VA.out.c0
      have VA1 := VA.out.c1
      have VA2 := VA.out.c2
      have VB0 := VB.out.c0
      have VB1 := VB.out.c1
      have VB2 := VB.out.c2
      go_wp2_with fail
      refine (sSibCmp_any A1 A2 n1 n2 c1 c2 xs ys g g' t u _ HA.out HB.out (by unfold maxLen; omega) (by unfold maxLen; omega) (by unfold maxLen; omega) (by unfold maxLen; omega)).mono ?_
      rintro e w6 ⟨rfl, hb⟩
      clear VA0 VA1 VA2 VB0 VB1 VB2
      have B6 := Lib.hid (B5.out.trans (hb.mono B5.out.size))
      replace HA := Lib.hid (HA.out.step hb)
      replace HB := Lib.hid (HB.out.step hb)
      replace VA := Lib.hid (VA.out.step hb)
      replace VB := Lib.hid (VB.out.step hb)
      clear hb
      go_wp2
      go_ret
      exact ⟨ret_bool (by simp), B6.out⟩
  · have k1' : sibOk ⟨xs, g, t⟩ = false := by simpa using k1
    clear k1
    have VA0 := VA.out.c0
    have VA1 := VA.out.c1
    have VA2 := VA.out.c2
    have VB0 := VB.out.c0
    have VB1 := VB.out.c1
    have VB2 := VB.out.c2
    go_wp2_with fail
    refine (sSibCmp_any A1 A2 n1 n2 c1 c2 xs ys g g' t u _ HA.out HB.out (by unfold maxLen; omega) (by unfold maxLen; omega) (by unfold maxLen; omega) (by unfold maxLen; omega)).mono ?_
    rintro e w5 ⟨rfl, hb⟩
    clear VA0 VA1 VA2 VB0 VB1 VB2
    have B5 := Lib.hid (B4.out.trans (hb.mono B4.out.size))
    replace HA := Lib.hid (HA.out.step hb)
    replace HB := Lib.hid (HB.out.step hb)
    replace VA := Lib.hid (VA.out.step hb)
    replace VB := Lib.hid (VB.out.step hb)
    clear hb
    go_wp2
    go_ret
    exact ⟨ret_bool (by simp), B5.out⟩

end Go.Proofs.YtkcoeeekeddgaaaDoor
