
/-
  The walk of the law FnExactSibsMerge.
-/
import Derived.Test.YtlmjgbonoihccaaDoorMergeE
namespace Go.Proofs.YtlmjgbonoihccaaDoor
open Go.RowKit Go.PlainAid

set_option maxRecDepth 100000 in
set_option maxHeartbeats 3200000 in
theorem FnExactSibsMerge_walk (a0 : Option Addr) (len0 cap0 : Nat) (ks0 : List Kv) (a1 : Option Addr) (len1 cap1 : Nat) (ks1 : List Kv) (w : World) (w0 : HasS w a0 len0 ks0) (n0 : len0 ≤ maxLen) (w1 : HasS w a1 len1 ks1) (n1 : len1 ≤ maxLen) :
    Calls Tryd.prog 5 #[.slice a0 len0 cap0, .slice a1 len1 cap1] w fun e w' => e = .returned (.bool true) ∧ Below w.heap.size w w' := by
  have A0 := Lib.hid (show Sibs w 0 w.heap.size a0 len0 ks0 from w0)
  have A1 := Lib.hid (show Sibs w 0 w.heap.size a1 len1 ks1 from w1)
  clear w0 w1
  have B0 := Lib.hid (Below.refl w.heap.size w)
  have s0 : w.heap.size ≤ w.heap.size := Nat.le_refl _
  go_enter Tryd.func5, Tryd.ntmps5
  go_wp2_with fail
  refine (szSibS_any a0 len0 cap0 ks0 1048576 _ (HasS.of A0.out (by omega)) n0 (by omega) (by omega)).mono ?_
  rintro e w1 ⟨r0, rfl, hr, hb⟩
  have B1 := Lib.hid (B0.out.trans (hb.mono B0.out.size))
  have s1 := hb.size
  replace A0 := Lib.hid (A0.out.below hb (by omega))
  replace A1 := Lib.hid (A1.out.below hb (by omega))
  clear hb
  rcases hr with rfl | ⟨r00, r01, r0k⟩
  · go_wp2
    go_ret
    exact ⟨rfl, B1.out⟩
  have i0 : ¬ r0 < 0 := by omega
  have m0 : len0 ≤ 1048576 := by omega
  have RK0 := Lib.hid r0k
  clear r0k
  go_wp2_with fail
  refine (szSibS_any a1 len1 cap1 ks1 r0 _ (HasS.of A1.out (by omega)) n1 (by omega) (by omega)).mono ?_
  rintro e w2 ⟨r1, rfl, hr, hb⟩
  have B2 := Lib.hid (B1.out.trans (hb.mono B1.out.size))
  have s2 := hb.size
  replace A0 := Lib.hid (A0.out.below hb (by omega))
  replace A1 := Lib.hid (A1.out.below hb (by omega))
  clear hb
  rcases hr with rfl | ⟨r10, r11, r1k⟩
  · go_wp2
    go_ret
    exact ⟨rfl, B2.out⟩
  have i1 : ¬ r1 < 0 := by omega
  have m1 : len1 ≤ 1048576 := by omega
  have RK1 := Lib.hid r1k
  clear r1k
  have TT0 : Hid (totS (sbs ks0) ≤ 1048576) := Lib.hid (by omega)
  have TT1 : Hid (totS (sbs ks1) ≤ 1048576) := Lib.hid (by omega)
  obtain ⟨ok, hok⟩ : ∃ ok, mergeOk (sbs ks0) (sbs ks1) = ok := ⟨_, rfl⟩
  obtain ⟨ts, hts⟩ : ∃ ts, mergeV (sbs ks0) (sbs ks1) = ts := ⟨_, rfl⟩
  have OK := Lib.hid hok
  have TS := Lib.hid hts
  have tl : ts.length ≤ 12 := by rw [← hts]; exact mergeV_len _ _
  have TT : Hid (totS ts ≤ 1048576) := Lib.hid (by rw [← hts]; exact totS_merge _ _)
  clear hok hts
  go_wp2_with fail
  refine (toSibS_any a0 len0 cap0 ks0 _ (HasS.of A0.out (by omega)) m0 RK0.out).mono ?_
  rintro e w3 ⟨gP, kP, rfl, hb, h_P, e_EP⟩
  have B3 := Lib.hid (B2.out.trans (hb.mono B2.out.size))
  have s3 := hb.size
  replace A0 := Lib.hid (A0.out.below hb (by omega))
  replace A1 := Lib.hid (A1.out.below hb (by omega))
  have P := Lib.hid h_P
  have EP := Lib.hid e_EP
  clear hb h_P e_EP
  go_wp2_with fail
  refine (toSibS_any a1 len1 cap1 ks1 _ (HasS.of A1.out (by omega)) m1 RK1.out).mono ?_
  rintro e w4 ⟨gR, kR, rfl, hb, h_R, e_ER⟩
  have B4 := Lib.hid (B3.out.trans (hb.mono B3.out.size))
  have s4 := hb.size
  replace A0 := Lib.hid (A0.out.below hb (by omega))
  replace A1 := Lib.hid (A1.out.below hb (by omega))
  replace P := Lib.hid (P.out.below hb (by omega))
  have R := Lib.hid h_R
  have ER := Lib.hid e_ER
  clear hb h_R e_ER
  go_wp2_with fail
  refine (sSibsMerge_e (ok := ok) (ts := ts) (P.out.hasS (by omega)) (R.out.hasS (by omega)) (by unfold maxLen; omega) (by unfold maxLen; omega) EP.out ER.out OK.out TS.out).mono ?_
  rintro e w5 ⟨AW, cW, lW, rfl, hb, q_W, lw, e_EW⟩
  have h_W : Sibs _ 0 _ AW lW.length lW := q_W
  clear q_W
  have B5 := Lib.hid (B4.out.trans (hb.mono B4.out.size))
  have s5 := hb.size
  replace A0 := Lib.hid (A0.out.below hb (by omega))
  replace A1 := Lib.hid (A1.out.below hb (by omega))
  replace P := Lib.hid (P.out.below hb (by omega))
  replace R := Lib.hid (R.out.below hb (by omega))
  have W := Lib.hid h_W
  have EW := Lib.hid e_EW
  clear hb h_W e_EW
  go_wp2_with fail
  refine (toSibS_any a0 len0 cap0 ks0 _ (HasS.of A0.out (by omega)) m0 RK0.out).mono ?_
  rintro e w6 ⟨gX, kX, rfl, hb, h_X, e_EX⟩
  have B6 := Lib.hid (B5.out.trans (hb.mono B5.out.size))
  have s6 := hb.size
  replace A0 := Lib.hid (A0.out.below hb (by omega))
  replace A1 := Lib.hid (A1.out.below hb (by omega))
  replace P := Lib.hid (P.out.below hb (by omega))
  replace R := Lib.hid (R.out.below hb (by omega))
  replace W := Lib.hid (W.out.below hb (by omega))
  have X := Lib.hid h_X
  have EX := Lib.hid e_EX
  clear hb h_X e_EX
  go_wp2_with fail
  refine (toSibS_any a1 len1 cap1 ks1 _ (HasS.of A1.out (by omega)) m1 RK1.out).mono ?_
  rintro e w7 ⟨gY, kY, rfl, hb, h_Y, e_EY⟩
  have B7 := Lib.hid (B6.out.trans (hb.mono B6.out.size))
  have s7 := hb.size
  replace A0 := Lib.hid (A0.out.below hb (by omega))
  replace A1 := Lib.hid (A1.out.below hb (by omega))
  replace P := Lib.hid (P.out.below hb (by omega))
  replace R := Lib.hid (R.out.below hb (by omega))
  replace W := Lib.hid (W.out.below hb (by omega))
  replace X := Lib.hid (X.out.below hb (by omega))
  have Y := Lib.hid h_Y
  have EY := Lib.hid e_EY
  clear hb h_Y e_EY
  go_wp2_with fail
  refine (iSibsMerge_o (ok := ok) (ts := ts) (X.out.hasS (by omega)) (Y.out.hasS (by omega)) (by unfold maxLen; omega) (by unfold maxLen; omega) EX.out EY.out OK.out TS.out).mono ?_
  rintro e w8 ⟨AG, cG, lG, rfl, hb, h_G, e_EG⟩
  have lgG : lG.length ≤ 12 := by rw [← sbs_len, e_EG]; exact tl
  have B8 := Lib.hid (B7.out.trans (hb.mono B7.out.size))
  have s8 := hb.size
  replace A0 := Lib.hid (A0.out.below hb (by omega))
  replace A1 := Lib.hid (A1.out.below hb (by omega))
  replace P := Lib.hid (P.out.below hb (by omega))
  replace R := Lib.hid (R.out.below hb (by omega))
  replace W := Lib.hid (W.out.below hb (by omega))
  replace X := Lib.hid (X.out.below hb (by omega))
  replace Y := Lib.hid (Y.out.below hb (by omega))
  have G := Lib.hid h_G
  have EG := Lib.hid e_EG
  clear hb h_G e_EG
  go_wp2_with fail
  refine (eqSibS_any _ _ _ _ _ _ _ _ _ (G.out.hasS (by omega)) (HasS.of W.out (by omega)) (by unfold maxLen; omega)).mono ?_
  rintro e w9 ⟨rfl, hb⟩
  rw [EG.out, EW.out]
  have B9 := Lib.hid (B8.out.trans (hb.mono B8.out.size))
  have s9 := hb.size
  replace A0 := Lib.hid (A0.out.below hb (by omega))
  replace A1 := Lib.hid (A1.out.below hb (by omega))
  replace P := Lib.hid (P.out.below hb (by omega))
  replace R := Lib.hid (R.out.below hb (by omega))
  replace W := Lib.hid (W.out.below hb (by omega))
  replace X := Lib.hid (X.out.below hb (by omega))
  replace Y := Lib.hid (Y.out.below hb (by omega))
  replace G := Lib.hid (G.out.below hb (by omega))
  clear hb
  go_wp2_with fail
  refine (toSibS_any a0 len0 cap0 ks0 _ (HasS.of A0.out (by omega)) m0 RK0.out).mono ?_
  rintro e w10 ⟨gT, kT, rfl, hb, h_T, e_ET⟩
  have B10 := Lib.hid (B9.out.trans (hb.mono B9.out.size))
  have s10 := hb.size
  replace A0 := Lib.hid (A0.out.below hb (by omega))
  replace A1 := Lib.hid (A1.out.below hb (by omega))
  replace P := Lib.hid (P.out.below hb (by omega))
  replace R := Lib.hid (R.out.below hb (by omega))
  replace W := Lib.hid (W.out.below hb (by omega))
  replace X := Lib.hid (X.out.below hb (by omega))
  replace Y := Lib.hid (Y.out.below hb (by omega))
  replace G := Lib.hid (G.out.below hb (by omega))
  have T := Lib.hid h_T
  have ET := Lib.hid e_ET
  clear hb h_T e_ET
  go_wp2_with fail
  refine (eqSibS_any _ _ _ _ _ _ _ _ _ (X.out.hasS (by omega)) (T.out.hasS (by omega)) (by unfold maxLen; omega)).mono ?_
  rintro e w11 ⟨rfl, hb⟩
  rw [EX.out, ET.out]
  have B11 := Lib.hid (B10.out.trans (hb.mono B10.out.size))
  have s11 := hb.size
  replace A0 := Lib.hid (A0.out.below hb (by omega))
  replace A1 := Lib.hid (A1.out.below hb (by omega))
  replace P := Lib.hid (P.out.below hb (by omega))
  replace R := Lib.hid (R.out.below hb (by omega))
  replace W := Lib.hid (W.out.below hb (by omega))
  replace X := Lib.hid (X.out.below hb (by omega))
  replace Y := Lib.hid (Y.out.below hb (by omega))
  replace G := Lib.hid (G.out.below hb (by omega))
  replace T := Lib.hid (T.out.below hb (by omega))
  clear hb
  go_wp2_with fail
  refine (toSibS_any a1 len1 cap1 ks1 _ (HasS.of A1.out (by omega)) m1 RK1.out).mono ?_
  rintro e w12 ⟨gU, kU, rfl, hb, h_U, e_EU⟩
  have B12 := Lib.hid (B11.out.trans (hb.mono B11.out.size))
  have s12 := hb.size
  replace A0 := Lib.hid (A0.out.below hb (by omega))
  replace A1 := Lib.hid (A1.out.below hb (by omega))
  replace P := Lib.hid (P.out.below hb (by omega))
  replace R := Lib.hid (R.out.below hb (by omega))
  replace W := Lib.hid (W.out.below hb (by omega))
  replace X := Lib.hid (X.out.below hb (by omega))
  replace Y := Lib.hid (Y.out.below hb (by omega))
  replace G := Lib.hid (G.out.below hb (by omega))
  replace T := Lib.hid (T.out.below hb (by omega))
  have U := Lib.hid h_U
  have EU := Lib.hid e_EU
  clear hb h_U e_EU
  go_wp2_with fail
  refine (eqSibS_any _ _ _ _ _ _ _ _ _ (Y.out.hasS (by omega)) (U.out.hasS (by omega)) (by unfold maxLen; omega)).mono ?_
  rintro e w13 ⟨rfl, hb⟩
  rw [EY.out, EU.out]
  have B13 := Lib.hid (B12.out.trans (hb.mono B12.out.size))
  have s13 := hb.size
  replace A0 := Lib.hid (A0.out.below hb (by omega))
  replace A1 := Lib.hid (A1.out.below hb (by omega))
  replace P := Lib.hid (P.out.below hb (by omega))
  replace R := Lib.hid (R.out.below hb (by omega))
  replace W := Lib.hid (W.out.below hb (by omega))
  replace X := Lib.hid (X.out.below hb (by omega))
  replace Y := Lib.hid (Y.out.below hb (by omega))
  replace G := Lib.hid (G.out.below hb (by omega))
  replace T := Lib.hid (T.out.below hb (by omega))
  replace U := Lib.hid (U.out.below hb (by omega))
  clear hb
  clear P
  clear R
  clear T
  clear U
  have hpX := posTo_le (ss := sbs kX) (k := 1) (j := len0) (by rw [EX.out]; exact TT0.out) m0
  go_wp2_with fail
  refine (markSibS_any _ _ _ _ 1 _ _ _ X.out (by omega) (by omega) (by omega) m0 (by rw [EX.out]; exact TT0.out)).mono ?_
  rintro e w14 ⟨rfl, hI, kX', h_new, e_new⟩
  obtain ⟨p0, hp0⟩ : ∃ p0, posTo (sbs kX) 1 len0 = p0 := ⟨_, rfl⟩
  rw [hp0] at hpX ⊢
  clear hp0
  have B14 := Lib.hid (B13.out.trans (hI.below (by omega) (by omega)))
  have s14 := hI.size
  replace A0 := Lib.hid (A0.out.keep (hI.keep (by omega) (by omega)))
  replace A1 := Lib.hid (A1.out.keep (hI.keep (by omega) (by omega)))
  replace W := Lib.hid (W.out.keep (hI.keep (by omega) (by omega)))
  replace Y := Lib.hid (Y.out.keep (hI.keep (by omega) (by omega)))
  replace G := Lib.hid (G.out.keep (hI.keep (by omega) (by omega)))
  replace X := Lib.hid h_new
  clear hI h_new
  clear e_new EX
  have hpY := posTo_le (ss := sbs kY) (k := p0) (j := len1) (by rw [EY.out]; exact TT1.out) m1
  go_wp2_with fail
  refine (markSibS_any _ _ _ _ p0 _ _ _ Y.out (by omega) (by omega) (by omega) m1 (by rw [EY.out]; exact TT1.out)).mono ?_
  rintro e w15 ⟨rfl, hI, kY', h_new, e_new⟩
  obtain ⟨p1, hp1⟩ : ∃ p1, posTo (sbs kY) p0 len1 = p1 := ⟨_, rfl⟩
  rw [hp1] at hpY ⊢
  clear hp1
  have B15 := Lib.hid (B14.out.trans (hI.below (by omega) (by omega)))
  have s15 := hI.size
  replace A0 := Lib.hid (A0.out.keep (hI.keep (by omega) (by omega)))
  replace A1 := Lib.hid (A1.out.keep (hI.keep (by omega) (by omega)))
  replace W := Lib.hid (W.out.keep (hI.keep (by omega) (by omega)))
  replace X := Lib.hid (X.out.keep (hI.keep (by omega) (by omega)))
  replace G := Lib.hid (G.out.keep (hI.keep (by omega) (by omega)))
  replace Y := Lib.hid h_new
  clear hI h_new
  clear e_new EY
  have ip1 : ¬ (p1 : Int) < 0 := by omega
  go_wp2_with fail
  refine (eqSibS_any _ _ _ _ _ _ _ _ _ (G.out.hasS (by omega)) (HasS.of W.out (by omega)) (by unfold maxLen; omega)).mono ?_
  rintro e w16 ⟨rfl, hb⟩
  rw [EG.out, EW.out]
  have B16 := Lib.hid (B15.out.trans (hb.mono B15.out.size))
  have s16 := hb.size
  replace A0 := Lib.hid (A0.out.below hb (by omega))
  replace A1 := Lib.hid (A1.out.below hb (by omega))
  replace W := Lib.hid (W.out.below hb (by omega))
  replace X := Lib.hid (X.out.below hb (by omega))
  replace Y := Lib.hid (Y.out.below hb (by omega))
  replace G := Lib.hid (G.out.below hb (by omega))
  clear hb
  have hpG := posTo_le (ss := ts) (k := 1) (j := lG.length) TT.out (by omega)
  go_wp2_with fail
  refine (markSibS_any _ _ _ _ 1 _ _ _ G.out (by omega) (by omega) (by omega) (by omega) (by rw [EG.out]; exact TT.out)).mono ?_
  rintro e w17 ⟨rfl, hI, kG', h_new, e_new⟩
  rw [EG.out] at e_new ⊢
  obtain ⟨pm, hpm⟩ : ∃ pm, posTo ts 1 lG.length = pm := ⟨_, rfl⟩
  rw [hpm] at hpG ⊢
  have PM := Lib.hid hpm
  have EGM := Lib.hid e_new
  clear hpm e_new
  have B17 := Lib.hid (B16.out.trans (hI.below (by omega) (by omega)))
  have s17 := hI.size
  replace A0 := Lib.hid (A0.out.keep (hI.keep (by omega) (by omega)))
  replace A1 := Lib.hid (A1.out.keep (hI.keep (by omega) (by omega)))
  replace W := Lib.hid (W.out.keep (hI.keep (by omega) (by omega)))
  replace X := Lib.hid (X.out.keep (hI.keep (by omega) (by omega)))
  replace Y := Lib.hid (Y.out.keep (hI.keep (by omega) (by omega)))
  replace G := Lib.hid h_new
  clear hI h_new
  have ipm : ¬ (pm : Int) < 0 := by omega
  go_wp2_with fail
  refine (heldSibS_any _ _ _ _ ts 1 _ _ _ G.out (by omega) EGM.out (by omega) (by omega) (by omega) TT.out).mono ?_
  rintro e w18 ⟨rfl, hb⟩
  rw [PM.out]
  have B18 := Lib.hid (B17.out.trans (hb.mono B17.out.size))
  have s18 := hb.size
  replace A0 := Lib.hid (A0.out.below hb (by omega))
  replace A1 := Lib.hid (A1.out.below hb (by omega))
  replace W := Lib.hid (W.out.below hb (by omega))
  replace X := Lib.hid (X.out.below hb (by omega))
  replace Y := Lib.hid (Y.out.below hb (by omega))
  replace G := Lib.hid (G.out.below hb (by omega))
  clear hb
  go_wp2_with fail
  refine (toSibS_any a0 len0 cap0 ks0 _ (HasS.of A0.out (by omega)) m0 RK0.out).mono ?_
  rintro e w19 ⟨gQ, kQ, rfl, hb, h_Q, e_EQ⟩
  have B19 := Lib.hid (B18.out.trans (hb.mono B18.out.size))
  have s19 := hb.size
  replace A0 := Lib.hid (A0.out.below hb (by omega))
  replace A1 := Lib.hid (A1.out.below hb (by omega))
  replace W := Lib.hid (W.out.below hb (by omega))
  replace X := Lib.hid (X.out.below hb (by omega))
  replace Y := Lib.hid (Y.out.below hb (by omega))
  replace G := Lib.hid (G.out.below hb (by omega))
  have Q := Lib.hid h_Q
  have EQ := Lib.hid e_EQ
  clear hb h_Q e_EQ
  go_wp2_with fail
  refine (toSibS_any a1 len1 cap1 ks1 _ (HasS.of A1.out (by omega)) m1 RK1.out).mono ?_
  rintro e w20 ⟨gS, kS, rfl, hb, h_S, e_ES⟩
  have B20 := Lib.hid (B19.out.trans (hb.mono B19.out.size))
  have s20 := hb.size
  replace A0 := Lib.hid (A0.out.below hb (by omega))
  replace A1 := Lib.hid (A1.out.below hb (by omega))
  replace W := Lib.hid (W.out.below hb (by omega))
  replace X := Lib.hid (X.out.below hb (by omega))
  replace Y := Lib.hid (Y.out.below hb (by omega))
  replace G := Lib.hid (G.out.below hb (by omega))
  replace Q := Lib.hid (Q.out.below hb (by omega))
  have S := Lib.hid h_S
  have ES := Lib.hid e_ES
  clear hb h_S e_ES
  go_wp2_with fail
  refine (iSibsMerge_o (ok := ok) (ts := ts) (Q.out.hasS (by omega)) (S.out.hasS (by omega)) (by unfold maxLen; omega) (by unfold maxLen; omega) EQ.out ES.out OK.out TS.out).mono ?_
  rintro e w21 ⟨AH, cH, lH, rfl, hb, h_H, e_EH⟩
  have lgH : lH.length ≤ 12 := by rw [← sbs_len, e_EH]; exact tl
  have B21 := Lib.hid (B20.out.trans (hb.mono B20.out.size))
  have s21 := hb.size
  replace A0 := Lib.hid (A0.out.below hb (by omega))
  replace A1 := Lib.hid (A1.out.below hb (by omega))
  replace W := Lib.hid (W.out.below hb (by omega))
  replace X := Lib.hid (X.out.below hb (by omega))
  replace Y := Lib.hid (Y.out.below hb (by omega))
  replace G := Lib.hid (G.out.below hb (by omega))
  replace Q := Lib.hid (Q.out.below hb (by omega))
  replace S := Lib.hid (S.out.below hb (by omega))
  have H := Lib.hid h_H
  have EH := Lib.hid e_EH
  clear hb h_H e_EH
  go_wp2_with fail
  refine (eqSibS_any _ _ _ _ _ _ _ _ _ (H.out.hasS (by omega)) (HasS.of W.out (by omega)) (by unfold maxLen; omega)).mono ?_
  rintro e w22 ⟨rfl, hb⟩
  rw [EH.out, EW.out]
  have B22 := Lib.hid (B21.out.trans (hb.mono B21.out.size))
  have s22 := hb.size
  replace A0 := Lib.hid (A0.out.below hb (by omega))
  replace A1 := Lib.hid (A1.out.below hb (by omega))
  replace W := Lib.hid (W.out.below hb (by omega))
  replace X := Lib.hid (X.out.below hb (by omega))
  replace Y := Lib.hid (Y.out.below hb (by omega))
  replace G := Lib.hid (G.out.below hb (by omega))
  replace Q := Lib.hid (Q.out.below hb (by omega))
  replace S := Lib.hid (S.out.below hb (by omega))
  replace H := Lib.hid (H.out.below hb (by omega))
  clear hb
  go_wp2_with fail
  refine (heldSibS_any _ _ _ _ ts 1 _ _ _ G.out (by omega) EGM.out (by omega) (by omega) (by omega) TT.out).mono ?_
  rintro e w23 ⟨rfl, hb⟩
  rw [PM.out]
  have B23 := Lib.hid (B22.out.trans (hb.mono B22.out.size))
  have s23 := hb.size
  replace A0 := Lib.hid (A0.out.below hb (by omega))
  replace A1 := Lib.hid (A1.out.below hb (by omega))
  replace W := Lib.hid (W.out.below hb (by omega))
  replace X := Lib.hid (X.out.below hb (by omega))
  replace Y := Lib.hid (Y.out.below hb (by omega))
  replace G := Lib.hid (G.out.below hb (by omega))
  replace Q := Lib.hid (Q.out.below hb (by omega))
  replace S := Lib.hid (S.out.below hb (by omega))
  replace H := Lib.hid (H.out.below hb (by omega))
  clear hb
  go_wp2
  go_ret
  exact ⟨rfl, B23.out⟩

end Go.Proofs.YtlmjgbonoihccaaDoor
