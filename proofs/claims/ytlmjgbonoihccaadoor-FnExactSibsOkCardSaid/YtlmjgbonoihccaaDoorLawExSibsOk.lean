
/-
  The walk of the law FnExactSibsOk.
-/
import Derived.Test.YtlmjgbonoihccaaDoorSibsC
import Derived.Test.YtlmjgbonoihccaaDoorSibsD
import Derived.Test.YtlmjgbonoihccaaDoorSibsE
namespace Go.Proofs.YtlmjgbonoihccaaDoor
open Go.RowKit Go.PlainAid

set_option maxRecDepth 100000 in
set_option maxHeartbeats 1600000 in
theorem FnExactSibsOk_walk (a0 : Option Addr) (len0 cap0 : Nat) (ks0 : List Kv) (w : World) (w0 : HasS w a0 len0 ks0) (n0 : len0 ≤ maxLen) :
    Calls Tryd.prog 6 #[.slice a0 len0 cap0] w fun e w' => e = .returned (.bool true) ∧ Below w.heap.size w w' := by
  have A0 := Lib.hid (show Sibs w 0 w.heap.size a0 len0 ks0 from w0)
  clear w0
  have B0 := Lib.hid (Below.refl w.heap.size w)
  have s0 : w.heap.size ≤ w.heap.size := Nat.le_refl _
  go_enter Tryd.func6, Tryd.ntmps6
  go_wp2_with fail
  refine (szSibS_any a0 len0 cap0 ks0 1048576 _ (HasS.of A0.out (by omega)) n0 (by omega) (by omega)).mono ?_
  rintro e w1 ⟨r0, rfl, hr, hb⟩
  have B1 := Lib.hid (B0.out.trans (hb.mono B0.out.size))
  have s1 := hb.size
  replace A0 := Lib.hid (A0.out.below hb (by omega))
  clear hb
  rcases hr with rfl | ⟨r00, r01, r0k⟩
  · go_wp2
    go_ret
    exact ⟨rfl, B1.out⟩
  have i0 : ¬ r0 < 0 := by omega
  have m0 : len0 ≤ 1048576 := by omega
  have RK0 := Lib.hid r0k
  clear r0k
  go_wp2_with fail
  refine (toSibS_any a0 len0 cap0 ks0 _ (HasS.of A0.out (by omega)) m0 RK0.out).mono ?_
  rintro e w2 ⟨gP, kP, rfl, hb, h_P, e_EP⟩
  have B2 := Lib.hid (B1.out.trans (hb.mono B1.out.size))
  have s2 := hb.size
  replace A0 := Lib.hid (A0.out.below hb (by omega))
  have P := Lib.hid h_P
  have EP := Lib.hid e_EP
  clear hb h_P e_EP
  go_wp2_with fail
  refine (sSibsOk_any _ _ _ _ _ (P.out.hasS (by omega)) (by unfold maxLen; omega)).mono ?_
  rintro e w3 ⟨rfl, hb⟩
  rw [EP.out]
  have B3 := Lib.hid (B2.out.trans (hb.mono B2.out.size))
  have s3 := hb.size
  replace A0 := Lib.hid (A0.out.below hb (by omega))
  replace P := Lib.hid (P.out.below hb (by omega))
  clear hb
  go_wp2_with fail
  refine (toSibS_any a0 len0 cap0 ks0 _ (HasS.of A0.out (by omega)) m0 RK0.out).mono ?_
  rintro e w4 ⟨gX, kX, rfl, hb, h_X, e_EX⟩
  have B4 := Lib.hid (B3.out.trans (hb.mono B3.out.size))
  have s4 := hb.size
  replace A0 := Lib.hid (A0.out.below hb (by omega))
  replace P := Lib.hid (P.out.below hb (by omega))
  have X := Lib.hid h_X
  have EX := Lib.hid e_EX
  clear hb h_X e_EX
  go_wp2_with fail
  refine (iSibsOk_any _ _ _ _ _ (X.out.hasS (by omega)) (by unfold maxLen; omega)).mono ?_
  rintro e w5 ⟨rfl, hb⟩
  rw [EX.out]
  have B5 := Lib.hid (B4.out.trans (hb.mono B4.out.size))
  have s5 := hb.size
  replace A0 := Lib.hid (A0.out.below hb (by omega))
  replace P := Lib.hid (P.out.below hb (by omega))
  replace X := Lib.hid (X.out.below hb (by omega))
  clear hb
  go_wp2_with fail
  refine (toSibS_any a0 len0 cap0 ks0 _ (HasS.of A0.out (by omega)) m0 RK0.out).mono ?_
  rintro e w6 ⟨gT, kT, rfl, hb, h_T, e_ET⟩
  have B6 := Lib.hid (B5.out.trans (hb.mono B5.out.size))
  have s6 := hb.size
  replace A0 := Lib.hid (A0.out.below hb (by omega))
  replace P := Lib.hid (P.out.below hb (by omega))
  replace X := Lib.hid (X.out.below hb (by omega))
  have T := Lib.hid h_T
  have ET := Lib.hid e_ET
  clear hb h_T e_ET
  go_wp2_with fail
  refine (eqSibS_any _ _ _ _ _ _ _ _ _ (X.out.hasS (by omega)) (T.out.hasS (by omega)) (by unfold maxLen; omega)).mono ?_
  rintro e w7 ⟨rfl, hb⟩
  rw [EX.out, ET.out]
  have B7 := Lib.hid (B6.out.trans (hb.mono B6.out.size))
  have s7 := hb.size
  replace A0 := Lib.hid (A0.out.below hb (by omega))
  replace P := Lib.hid (P.out.below hb (by omega))
  replace X := Lib.hid (X.out.below hb (by omega))
  replace T := Lib.hid (T.out.below hb (by omega))
  clear hb
  go_wp2
  go_ret
  exact ⟨rfl, B7.out⟩

end Go.Proofs.YtlmjgbonoihccaaDoor
