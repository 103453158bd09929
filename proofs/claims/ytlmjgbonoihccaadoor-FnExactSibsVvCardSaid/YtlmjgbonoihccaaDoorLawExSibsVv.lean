
/-
  The walk of the law FnExactSibsVv.
-/
import Derived.Test.YtlmjgbonoihccaaDoorSibsI
import Derived.Test.YtlmjgbonoihccaaDoorSibsJ
namespace Go.Proofs.YtlmjgbonoihccaaDoor
open Go.RowKit Go.PlainAid

set_option maxRecDepth 100000 in
set_option maxHeartbeats 1600000 in
theorem FnExactSibsVv_walk (a0 : Option Addr) (len0 cap0 : Nat) (ks0 : List Kv) (w : World) (w0 : HasS w a0 len0 ks0) (n0 : len0 ≤ maxLen) :
    Calls Tryd.prog 10 #[.slice a0 len0 cap0] w fun e w' => e = .returned (.bool true) ∧ Below w.heap.size w w' := by
  have A0 := Lib.hid (show Sibs w 0 w.heap.size a0 len0 ks0 from w0)
  clear w0
  have B0 := Lib.hid (Below.refl w.heap.size w)
  have s0 : w.heap.size ≤ w.heap.size := Nat.le_refl _
  go_enter Tryd.func10, Tryd.ntmps10
  go_wp2_with fail
  refine (szSibS_any a0 len0 cap0 ks0 1048576 _ (HasS.of A0.out (by omega)) n0 (by omega) (by omega)).mono ?_
  rintro e w1 ⟨r0, rfl, hr, hb⟩
  have B1 := Lib.hid (B0.out.trans (hb.mono B0.out.size))
  have s1 := hb.size
  replace A0 := Lib.hid (A0.out.below hb (by omega))
  clear hb
  rcases hr with rfl | ⟨r00, r01, r0k⟩
  · go_wp2
    go_ret
    exact ⟨rfl, B1.out⟩
  have i0 : ¬ r0 < 0 := by omega
  have m0 : len0 ≤ 1048576 := by omega
  have RK0 := Lib.hid r0k
  clear r0k
  have TT0 : Hid (totS (sbs ks0) ≤ 1048576) := Lib.hid (by omega)
  obtain ⟨ts, hts⟩ : ∃ ts, vvSibs (sbs ks0) = ts := ⟨_, rfl⟩
  have TS := Lib.hid hts
  have tl : ts.length ≤ 3 := by rw [← hts]; exact vvSibs_le _
  clear hts
  go_wp2_with fail
  refine (toSibS_any a0 len0 cap0 ks0 _ (HasS.of A0.out (by omega)) m0 RK0.out).mono ?_
  rintro e w2 ⟨gP, kP, rfl, hb, h_P, e_EP⟩
  have B2 := Lib.hid (B1.out.trans (hb.mono B1.out.size))
  have s2 := hb.size
  replace A0 := Lib.hid (A0.out.below hb (by omega))
  have P := Lib.hid h_P
  have EP := Lib.hid e_EP
  clear hb h_P e_EP
  go_wp2_with fail
  refine (sSibsVv_e (ts := ts) (P.out.hasS (by omega)) (by unfold maxLen; omega) (by rw [EP.out]; exact TS.out)).mono ?_
  rintro e w3 ⟨AW, cW, rfl, hb, q_W⟩
  have h_W := OwnInts.of q_W (Nat.le_refl _)
  clear q_W
  have B3 := Lib.hid (B2.out.trans (hb.mono B2.out.size))
  have s3 := hb.size
  replace A0 := Lib.hid (A0.out.below hb (by omega))
  replace P := Lib.hid (P.out.below hb (by omega))
  have W := Lib.hid h_W
  clear hb h_W
  go_wp2_with fail
  refine (toSibS_any a0 len0 cap0 ks0 _ (HasS.of A0.out (by omega)) m0 RK0.out).mono ?_
  rintro e w4 ⟨gX, kX, rfl, hb, h_X, e_EX⟩
  have B4 := Lib.hid (B3.out.trans (hb.mono B3.out.size))
  have s4 := hb.size
  replace A0 := Lib.hid (A0.out.below hb (by omega))
  replace P := Lib.hid (P.out.below hb (by omega))
  replace W := Lib.hid (W.out.below hb (by omega))
  have X := Lib.hid h_X
  have EX := Lib.hid e_EX
  clear hb h_X e_EX
  go_wp2_with fail
  refine (iSibsVv_e (ts := ts) (X.out.hasS (by omega)) (by unfold maxLen; omega) (by rw [EX.out]; exact TS.out)).mono ?_
  rintro e w5 ⟨AG, cG, rfl, hb, q_G⟩
  have h_G := OwnInts.of q_G (Nat.le_refl _)
  clear q_G
  have B5 := Lib.hid (B4.out.trans (hb.mono B4.out.size))
  have s5 := hb.size
  replace A0 := Lib.hid (A0.out.below hb (by omega))
  replace P := Lib.hid (P.out.below hb (by omega))
  replace W := Lib.hid (W.out.below hb (by omega))
  replace X := Lib.hid (X.out.below hb (by omega))
  have G := Lib.hid h_G
  clear hb h_G
  go_wp2_with fail
  refine (eqIntS_any _ _ _ _ _ _ _ _ _ _ _ _ _ G.out.ints W.out.ints (by unfold maxLen; omega)).mono ?_
  rintro e w6 ⟨rfl, hw⟩
  have hb := bel_of_drew hw
  have B6 := Lib.hid (B5.out.trans (hb.mono B5.out.size))
  have s6 := hb.size
  replace A0 := Lib.hid (A0.out.below hb (by omega))
  replace P := Lib.hid (P.out.below hb (by omega))
  replace W := Lib.hid (W.out.below hb (by omega))
  replace X := Lib.hid (X.out.below hb (by omega))
  replace G := Lib.hid (G.out.below hb (by omega))
  clear hb hw
  go_wp2_with fail
  refine (toSibS_any a0 len0 cap0 ks0 _ (HasS.of A0.out (by omega)) m0 RK0.out).mono ?_
  rintro e w7 ⟨gT, kT, rfl, hb, h_T, e_ET⟩
  have B7 := Lib.hid (B6.out.trans (hb.mono B6.out.size))
  have s7 := hb.size
  replace A0 := Lib.hid (A0.out.below hb (by omega))
  replace P := Lib.hid (P.out.below hb (by omega))
  replace W := Lib.hid (W.out.below hb (by omega))
  replace X := Lib.hid (X.out.below hb (by omega))
  replace G := Lib.hid (G.out.below hb (by omega))
  have T := Lib.hid h_T
  have ET := Lib.hid e_ET
  clear hb h_T e_ET
  go_wp2_with fail
  refine (eqSibS_any _ _ _ _ _ _ _ _ _ (X.out.hasS (by omega)) (T.out.hasS (by omega)) (by unfold maxLen; omega)).mono ?_
  rintro e w8 ⟨rfl, hb⟩
  rw [EX.out, ET.out]
  have B8 := Lib.hid (B7.out.trans (hb.mono B7.out.size))
  have s8 := hb.size
  replace A0 := Lib.hid (A0.out.below hb (by omega))
  replace P := Lib.hid (P.out.below hb (by omega))
  replace W := Lib.hid (W.out.below hb (by omega))
  replace X := Lib.hid (X.out.below hb (by omega))
  replace G := Lib.hid (G.out.below hb (by omega))
  replace T := Lib.hid (T.out.below hb (by omega))
  clear hb
  clear P
  clear T
  go_wp2_with fail
  refine (markSibS_any _ _ _ _ 1 _ _ _ X.out (by omega) (by omega) (by omega) m0 (by rw [EX.out]; exact TT0.out)).mono ?_
  rintro e w9 ⟨rfl, hI, kX', h_new, e_new⟩
  have B9 := Lib.hid (B8.out.trans (hI.below (by omega) (by omega)))
  have s9 := hI.size
  replace A0 := Lib.hid (A0.out.keep (hI.keep (by omega) (by omega)))
  replace W := Lib.hid (W.out.keep (hI.keep (by omega) (by omega)))
  replace G := Lib.hid (G.out.keep (hI.keep (by omega) (by omega)))
  replace X := Lib.hid h_new
  clear hI h_new
  clear e_new EX
  go_wp2_with fail
  refine (eqIntS_any _ _ _ _ _ _ _ _ _ _ _ _ _ G.out.ints W.out.ints (by unfold maxLen; omega)).mono ?_
  rintro e w10 ⟨rfl, hw⟩
  have hb := bel_of_drew hw
  have B10 := Lib.hid (B9.out.trans (hb.mono B9.out.size))
  have s10 := hb.size
  replace A0 := Lib.hid (A0.out.below hb (by omega))
  replace W := Lib.hid (W.out.below hb (by omega))
  replace X := Lib.hid (X.out.below hb (by omega))
  replace G := Lib.hid (G.out.below hb (by omega))
  clear hb hw
  go_wp2_with fail
  refine (markIntS_any _ _ _ _ _ _ _ _ G.out (by omega) (by omega) (by omega)).mono ?_
  rintro e w11 ⟨rfl, hI, h_new⟩
  have B11 := Lib.hid (B10.out.trans (hI.below (by omega)))
  have s11 := (hI.below (B := 0) (Nat.zero_le _)).size
  replace A0 := Lib.hid (A0.out.keep (hI.keep (by omega)))
  replace W := Lib.hid (W.out.keep (hI.keep (by omega)))
  replace X := Lib.hid (X.out.keep (hI.keep (by omega)))
  replace G := Lib.hid h_new
  clear hI h_new
  go_wp2_with fail
  refine (heldIntS_any _ _ _ _ _ _ _ G.out.ints (by omega) (by omega) (by omega)).mono ?_
  rintro e w12 ⟨rfl, hw⟩
  have hb := bel_of_eq hw
  have B12 := Lib.hid (B11.out.trans (hb.mono B11.out.size))
  have s12 := hb.size
  replace A0 := Lib.hid (A0.out.below hb (by omega))
  replace W := Lib.hid (W.out.below hb (by omega))
  replace X := Lib.hid (X.out.below hb (by omega))
  replace G := Lib.hid (G.out.below hb (by omega))
  clear hb hw
  go_wp2_with fail
  refine (toSibS_any a0 len0 cap0 ks0 _ (HasS.of A0.out (by omega)) m0 RK0.out).mono ?_
  rintro e w13 ⟨gQ, kQ, rfl, hb, h_Q, e_EQ⟩
  have B13 := Lib.hid (B12.out.trans (hb.mono B12.out.size))
  have s13 := hb.size
  replace A0 := Lib.hid (A0.out.below hb (by omega))
  replace W := Lib.hid (W.out.below hb (by omega))
  replace X := Lib.hid (X.out.below hb (by omega))
  replace G := Lib.hid (G.out.below hb (by omega))
  have Q := Lib.hid h_Q
  have EQ := Lib.hid e_EQ
  clear hb h_Q e_EQ
  go_wp2_with fail
  refine (iSibsVv_e (ts := ts) (Q.out.hasS (by omega)) (by unfold maxLen; omega) (by rw [EQ.out]; exact TS.out)).mono ?_
  rintro e w14 ⟨AH, cH, rfl, hb, q_H⟩
  have h_H := OwnInts.of q_H (Nat.le_refl _)
  clear q_H
  have B14 := Lib.hid (B13.out.trans (hb.mono B13.out.size))
  have s14 := hb.size
  replace A0 := Lib.hid (A0.out.below hb (by omega))
  replace W := Lib.hid (W.out.below hb (by omega))
  replace X := Lib.hid (X.out.below hb (by omega))
  replace G := Lib.hid (G.out.below hb (by omega))
  replace Q := Lib.hid (Q.out.below hb (by omega))
  have H := Lib.hid h_H
  clear hb h_H
  go_wp2_with fail
  refine (eqIntS_any _ _ _ _ _ _ _ _ _ _ _ _ _ H.out.ints W.out.ints (by unfold maxLen; omega)).mono ?_
  rintro e w15 ⟨rfl, hw⟩
  have hb := bel_of_drew hw
  have B15 := Lib.hid (B14.out.trans (hb.mono B14.out.size))
  have s15 := hb.size
  replace A0 := Lib.hid (A0.out.below hb (by omega))
  replace W := Lib.hid (W.out.below hb (by omega))
  replace X := Lib.hid (X.out.below hb (by omega))
  replace G := Lib.hid (G.out.below hb (by omega))
  replace Q := Lib.hid (Q.out.below hb (by omega))
  replace H := Lib.hid (H.out.below hb (by omega))
  clear hb hw
  go_wp2_with fail
  refine (heldIntS_any _ _ _ _ _ _ _ G.out.ints (by omega) (by omega) (by omega)).mono ?_
  rintro e w16 ⟨rfl, hw⟩
  have hb := bel_of_eq hw
  have B16 := Lib.hid (B15.out.trans (hb.mono B15.out.size))
  have s16 := hb.size
  replace A0 := Lib.hid (A0.out.below hb (by omega))
  replace W := Lib.hid (W.out.below hb (by omega))
  replace X := Lib.hid (X.out.below hb (by omega))
  replace G := Lib.hid (G.out.below hb (by omega))
  replace Q := Lib.hid (Q.out.below hb (by omega))
  replace H := Lib.hid (H.out.below hb (by omega))
  clear hb hw
  go_wp2
  go_ret
  exact ⟨rfl, B16.out⟩

end Go.Proofs.YtlmjgbonoihccaaDoor
