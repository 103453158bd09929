
/-
  The walks of the laws FnVvBack, FnVvStrict, FnExactVvRead.
-/
import Derived.Test.YtkcoeeekeddgaaaDoorTextH
import Derived.Test.YtkcoeeekeddgaaaDoorLibV
namespace Go.Proofs.YtkcoeeekeddgaaaDoor
open Go.RowKit Go.PlainAid

set_option maxRecDepth 100000 in
set_option maxHeartbeats 1600000 in
theorem FnVvBack_walk (A : Option Addr) (n c : Nat) (zs : List Int) (w : World) (hV : LibVars w) (h : Came w A n c zs) :
    Calls Tryd.prog 11 #[.slice A n c] w fun e w' => e = .returned (.bool true) ∧ Below w.heap.size w w' := by
  by_cases big : 1048576 < n
  · go_enter Tryd.func11, Tryd.ntmps11
    go_wp2
    go_ret
    exact ⟨rfl, Below.refl _ _⟩
  have H := Lib.hid h
  have V := Lib.hid hV
  clear h hV
  go_enter Tryd.func11, Tryd.ntmps11
  go_wp2_with fail
  refine (DrawVvText_any A n c zs _ H.out).mono ?_
  rintro e w1 ⟨A1, n1, c1, xs, rfl, hn1, hb, hI⟩
  have B1 := Lib.hid hb
  have I := Lib.hid hI
  clear hb hI H
  go_wp2_with fail
  refine (iVvText_any A1 n1 c1 xs _ I.out (by unfold maxLen; omega)).mono ?_
  rintro e w2 ⟨rfl, hb⟩
  have B2 := Lib.hid (B1.out.trans (hb.mono B1.out.size))
  replace I := Lib.hid (I.out.step hb)
  clear hb
  go_wp2_with fail
  refine (sVvText_any A1 n1 c1 xs _ I.out (by unfold maxLen; omega)).mono ?_
  rintro e w3 ⟨rfl, hb⟩
  have B3 := Lib.hid (B2.out.trans (hb.mono B2.out.size))
  replace I := Lib.hid (I.out.step hb)
  clear hb
  have hsz := textV_size xs
  by_cases k1 : vvOk xs = true
  · have e1 : (textV xs).toList.isEmpty = false := by rw [textV_yes k1]; exact out_ne k1
    have HR := Lib.hid (show Reads (textV xs) xs true by rw [textV_yes k1]; exact Reads.of_out k1)
    have K1 := Lib.hid k1
    obtain ⟨tx, htx⟩ : ∃ tx, textV xs = tx := ⟨_, rfl⟩
    rw [htx] at e1 HR hsz ⊢
    clear htx k1
    have z1 : (tx.toList == []) = false := by rw [← e1]; cases tx.toList <;> rfl
    clear e1
    go_wp2_with fail
    refine (iVvRead_h tx _ (V.out.step B3.out) (by omega)).mono ?_
    rintro e w4 ⟨A4, n4, c4, ys, ok, rfl, hb, hJ, hR⟩
    obtain ⟨rfl, rfl⟩ := HR.out.one hR
    have B4 := Lib.hid (B3.out.trans (hb.mono B3.out.size))
    replace I := Lib.hid (I.out.step hb)
    have J := Lib.hid hJ
    have hn4 : n4 ≤ 3 := by rw [← hJ.len]; exact hR.len
    clear hb hJ hR
    go_wp2_with fail
    refine (lvInts_h J.out I.out (by unfold maxLen; omega)).mono ?_
    rintro e w5 ⟨rfl, hb⟩
    rw [decide_eq_true rfl]
    have B5 := Lib.hid (B4.out.trans (hb.mono B4.out.size))
    replace I := Lib.hid (I.out.step hb)
    clear hb
    go_wp2_with fail
    refine (iVvOk_h I.out (by unfold maxLen; omega)).mono ?_
    rintro e w6 ⟨rfl, hb⟩
    rw [K1.out]
    have B6 := Lib.hid (B5.out.trans (hb.mono B5.out.size))
    clear hb
    go_wp2
    go_ret
    exact ⟨rfl, B6.out⟩
  · have k1' : vvOk xs = false := by simpa using k1
    clear k1
    have TN := Lib.hid (textV_no k1')
    rw [TN.out]
    go_wp2_with fail
    refine (sVvText_any A1 n1 c1 xs _ I.out (by unfold maxLen; omega)).mono ?_
    rintro e w4 ⟨rfl, hb⟩
    rw [TN.out]
    have B4 := Lib.hid (B3.out.trans (hb.mono B3.out.size))
    clear hb
    go_wp2
    go_ret
    exact ⟨rfl, B4.out⟩

set_option maxRecDepth 100000 in
set_option maxHeartbeats 1600000 in
theorem FnVvStrict_walk (A : Option Addr) (n c : Nat) (zs : List Int) (w : World) (hV : LibVars w) (h : Came w A n c zs) :
    Calls Tryd.prog 13 #[.slice A n c] w fun e w' => e = .returned (.bool true) ∧ Below w.heap.size w w' := by
  by_cases big : 1048576 < n
  · go_enter Tryd.func13, Tryd.ntmps13
    go_wp2
    go_ret
    exact ⟨rfl, Below.refl _ _⟩
  have H := Lib.hid h
  have V := Lib.hid hV
  clear h hV
  go_enter Tryd.func13, Tryd.ntmps13
  go_wp2_with fail
  refine (DrawVvRead_any A n c zs _ H.out).mono ?_
  rintro e w1 ⟨t, rfl, ht, hb⟩
  have B1 := Lib.hid hb
  clear hb H
  go_wp2_with fail
  refine (sVvRead_any t _).mono ?_
  rintro e w2 ⟨A2, n2, c2, xs, ok, rfl, hb, hI, hR⟩
  have B2 := Lib.hid (B1.out.trans (hb.mono B1.out.size))
  have I := Lib.hid hI
  have HR := Lib.hid hR
  have hn2 : n2 ≤ 3 := by rw [← hI.len]; exact hR.len
  clear hb hI hR
  go_wp2_with fail
  refine (iVvRead_h t _ (V.out.step B2.out) (by omega)).mono ?_
  rintro e w3 ⟨A3, n3, c3, ys, ok', rfl, hb, hJ, hR⟩
  obtain ⟨rfl, rfl⟩ := HR.out.one hR
  have B3 := Lib.hid (B2.out.trans (hb.mono B2.out.size))
  replace I := Lib.hid (I.out.step hb)
  have J := Lib.hid hJ
  have hn3 : n3 ≤ 3 := by rw [← hJ.len]; exact hR.len
  clear hb hJ hR
  go_wp2_with fail
  refine (lvInts_h J.out I.out (by unfold maxLen; omega)).mono ?_
  rintro e w4 ⟨rfl, hb⟩
  rw [decide_eq_true rfl]
  have B4 := Lib.hid (B3.out.trans (hb.mono B3.out.size))
  replace I := Lib.hid (I.out.step hb)
  replace J := Lib.hid (J.out.step hb)
  clear hb
  cases ok
  · go_wp2_with fail
    refine (lvInts_h J.out I.out (by unfold maxLen; omega)).mono ?_
    rintro e w5 ⟨rfl, hb⟩
    rw [decide_eq_true rfl]
    have B5 := Lib.hid (B4.out.trans (hb.mono B4.out.size))
    clear hb
    go_wp2
    go_ret
    exact ⟨rfl, B5.out⟩
  · have hyes : vvOk xs = true ∧ outT xs 3 = t := by
      rcases HR.out with ⟨_, h1, h2⟩ | ⟨h1, _⟩
      · exact ⟨h1, h2⟩
      · cases h1
    have K1 := Lib.hid hyes.1
    have HT := Lib.hid ((textV_yes hyes.1).trans hyes.2)
    clear hyes
    go_wp2_with fail
    refine (iVvOk_h J.out (by unfold maxLen; omega)).mono ?_
    rintro e w5 ⟨rfl, hb⟩
    rw [K1.out]
    have B5 := Lib.hid (B4.out.trans (hb.mono B4.out.size))
    replace J := Lib.hid (J.out.step hb)
    clear hb
    go_wp2_with fail
    refine (iVvText_any A3 n3 c3 xs _ J.out (by unfold maxLen; omega)).mono ?_
    rintro e w6 ⟨rfl, hb⟩
    rw [HT.out]
    have B6 := Lib.hid (B5.out.trans (hb.mono B5.out.size))
    clear hb
    go_wp2
    go_ret
    exact ⟨rfl, B6.out⟩

set_option maxRecDepth 100000 in
set_option maxHeartbeats 1600000 in
theorem FnExactVvRead_walk (t : ByteArray) (w : World) (hV : LibVars w) :
    Calls Tryd.prog 12 #[.string t] w fun e w' => e = .returned (.bool true) ∧ Below w.heap.size w w' := by
  by_cases big : 1048576 < t.size
  · go_enter Tryd.func12, Tryd.ntmps12
    go_wp2
    go_ret
    exact ⟨rfl, Below.refl _ _⟩
  have V := Lib.hid hV
  clear hV
  go_enter Tryd.func12, Tryd.ntmps12
  go_wp2_with fail
  refine (sVvRead_any t _).mono ?_
  rintro e w1 ⟨A1, n1, c1, xs, ok, rfl, hb, hI, hR⟩
  have B1 := Lib.hid hb
  have I : Hid (Ints w1 0 w1.heap.size A1 n1 xs) := Lib.hid hI
  have HR := Lib.hid hR
  have hn1 : n1 ≤ 3 := by rw [← hI.len]; exact hR.len
  clear hb hI hR
  go_wp2_with fail
  refine (iVvRead_any t _ (V.out.step B1.out) (by omega)).mono ?_
  rintro e w2 ⟨A2, n2, c2, ys, ok', rfl, hb, hO, hR⟩
  obtain ⟨rfl, rfl⟩ := HR.out.one hR
  have hn2 : n2 ≤ 3 := by rw [← (Has.own hO).len]; exact hR.len
  have B2 := Lib.hid (B1.out.trans (hb.mono B1.out.size))
  have s2 := hb.size
  replace I := Lib.hid (I.out.below hb (Nat.le_refl _))
  have G := Lib.hid (OwnInts.of hO (Nat.le_refl _))
  have s1 := B1.out.size
  clear hb hO hR
  go_wp2_with fail
  refine (eqIntS_any _ _ _ _ _ _ _ _ _ _ _ _ _ G.out.ints I.out (by unfold maxLen; omega)).mono ?_
  rintro e w3 ⟨rfl, hw⟩
  have hb := bel_of_drew hw
  rw [decide_eq_true rfl]
  have B3 := Lib.hid (B2.out.trans (hb.mono B2.out.size))
  have s3 := hb.size
  replace I := Lib.hid (I.out.below hb (by omega))
  replace G := Lib.hid (G.out.below hb (by omega))
  clear hb hw
  go_wp2_with fail
  refine (markIntS_any _ _ _ _ _ _ _ _ G.out (by omega) (by omega) (by omega)).mono ?_
  rintro e w4 ⟨rfl, hI, h_new⟩
  have B4 := Lib.hid (B3.out.trans (hI.below (by omega)))
  have s4 := (hI.below (B := 0) (Nat.zero_le _)).size
  replace I := Lib.hid (I.out.keep (hI.keep (by omega)))
  replace G := Lib.hid h_new
  clear hI h_new
  go_wp2_with fail
  refine (heldIntS_any _ _ _ _ _ _ _ G.out.ints (by omega) (by omega) (by omega)).mono ?_
  rintro e w5 ⟨rfl, rfl⟩
  have q0 : ¬ (1 : Int) + (n2 : Int) < 0 := by omega
  go_wp2_with fail
  refine (iVvRead_any t _ (V.out.step B4.out) (by omega)).mono ?_
  rintro e w6 ⟨A6, n6, c6, zs, ok6, rfl, hb, hO, hR⟩
  obtain ⟨rfl, rfl⟩ := HR.out.one hR
  have hn6 : n6 ≤ 3 := by rw [← (Has.own hO).len]; exact hR.len
  have B6 := Lib.hid (B4.out.trans (hb.mono B4.out.size))
  have s6 := hb.size
  replace I := Lib.hid (I.out.below hb (by omega))
  replace G := Lib.hid (G.out.below hb (by omega))
  have G6 := Lib.hid (OwnInts.of hO (Nat.le_refl _))
  clear hb hO hR
  go_wp2_with fail
  refine (eqIntS_any _ _ _ _ _ _ _ _ _ _ _ _ _ G6.out.ints I.out (by unfold maxLen; omega)).mono ?_
  rintro e w7 ⟨rfl, hw⟩
  have hb := bel_of_drew hw
  rw [decide_eq_true rfl]
  have B7 := Lib.hid (B6.out.trans (hb.mono B6.out.size))
  replace G := Lib.hid (G.out.below hb (by omega))
  clear hb hw
  go_wp2_with fail
  refine (heldIntS_any _ _ _ _ _ _ _ G.out.ints (by omega) (by omega) (by omega)).mono ?_
  rintro e w8 ⟨rfl, rfl⟩
  go_wp2
  go_ret
  exact ⟨rfl, B7.out⟩

end Go.Proofs.YtkcoeeekeddgaaaDoor
