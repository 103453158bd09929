/-
  Proved: for every input the call of FnExactVvJoin returns true and what came in reads as before. No condition.
-/
import Derived.Test.YtcpblncbljeccaaLawKit2
import Derived.Test.YtcpblncbljeccaaRows
import Derived.WalkKit
import Derived.ProofKit
import Derived.OpenShut
import Derived.ShutString
import Derived.ChangeOld
import Derived.Below
namespace Go.Proofs.Ytcpblncbljeccaa.fnExactVvJoin
open Go.ChangeShapes Go.WideShapes Go.ChangeAt Go.RowKit
open Go.ChangeMaps (open_string shut_string)
set_option linter.unusedVariables false

theorem own : ownKnob Try.prog.godebug = none := by kernel_rfl
theorem laidOut : laidOutB Try.prog = true := by kernel_rfl

/-- WHAT THE WALK IS TOLD OF A SLICE OF INTEGERS THAT CAME IN: it is nil; or it leads to a row of 'cap' cells, the numbers 'zs' (the first 'len' are its elements, the rest its spare room), each fitting its kind. -/
def IsRow (k : IntKind) (w : World) (a : Option Addr) (len cap : Nat) (zs : List Int) : Prop :=
  (a = none ∧ len = 0 ∧ cap = 0 ∧ zs = []) ∨
  ∃ x, a = some x ∧ len ≤ cap ∧ cap ≤ maxLen ∧ zs.length = cap ∧ (∀ i, i < zs.length → w.cell? (x.add i) = some (.int k (zs.getD i 0))) ∧ ∀ n ∈ zs, (Lit.int k n).wf = true

/-! ### STEP 1: THE WALK: the Go text returns true, AND WRITES NOTHING THAT WAS THERE: 'Below w.heap.size w w'' (Derived/Below.lean: '.refl', '.alloc', '.drew', '.setCell' at a new block, '.trans'). Open each 'IsRow' by 'rcases' AHEAD of 'go_enter'; part every test ahead of the walk. -/
theorem walk (a0 : Option Addr) (len0 cap0 : Nat) (z0 : List Int) (a1 : Option Addr) (len1 cap1 : Nat) (z1 : List Int) (w : World) (w0 : IsRow .i64 w a0 len0 cap0 z0) (w1 : IsRow .i64 w a1 len1 cap1 z1) :
    Calls Try.prog 8 #[.slice a0 len0 cap0, .slice a1 len1 cap1] w fun e w' => e = .returned (.bool true) ∧ Below w.heap.size w w' := by
  obtain ⟨hA0, hmA⟩ := ints_of_row w0
  obtain ⟨hC0, hmC⟩ := ints_of_row w1
  obtain ⟨xs, hxs⟩ : ∃ xs, xs = z0.take len0 := ⟨_, rfl⟩
  obtain ⟨ys, hys⟩ : ∃ ys, ys = z1.take len1 := ⟨_, rfl⟩
  rw [← hxs] at hA0
  rw [← hys] at hC0
  have A0 := Lib.hid hA0
  have C0 := Lib.hid hC0
  clear hA0 hC0 w0 w1 hmA hmC hxs hys
  have hj3 := vvJoinOk_le xs ys
  by_cases big_len0 : 1048576 < len0
  · go_enter Try.func8, Try.ntmps8
    go_wp2
    go_ret
    exact ⟨rfl, Below.refl _ _⟩
  by_cases big_len1 : 1048576 < len1
  · go_enter Try.func8, Try.ntmps8
    go_wp2
    go_ret
    exact ⟨rfl, Below.refl _ _⟩
  have B0 := Lib.hid (Below.refl w.heap.size w)
  go_enter Try.func8, Try.ntmps8
  go_wp2_with fail
  refine (toIntS_any _ len0 cap0 _ _ _ _ A0.out (by omega) (by omega)).mono ?_
  rintro e w1 ⟨gP1, rfl, hb, h_P1⟩
  have B1 := Lib.hid (B0.out.trans (hb.mono B0.out.size))
  have s1 := hb.size
  replace A0 := Lib.hid (A0.out.below hb (by omega))
  replace C0 := Lib.hid (C0.out.below hb (by omega))
  have P1 := Lib.hid (OwnInts.of h_P1 (Nat.le_refl _))
  clear hb h_P1
  go_wp2_with fail
  refine (toIntS_any _ len1 cap1 _ _ _ _ C0.out (by omega) (by omega)).mono ?_
  rintro e w2 ⟨gP2, rfl, hb, h_P2⟩
  have B2 := Lib.hid (B1.out.trans (hb.mono B1.out.size))
  have s2 := hb.size
  replace A0 := Lib.hid (A0.out.below hb (by omega))
  replace C0 := Lib.hid (C0.out.below hb (by omega))
  replace P1 := Lib.hid (P1.out.below hb (by omega))
  have P2 := Lib.hid (OwnInts.of h_P2 (Nat.le_refl _))
  clear hb h_P2
  go_wp2_with fail
  refine (sVvJoin_any _ _ _ _ _ _ xs ys _ _ _ _ _ P1.out.ints P2.out.ints (by unfold maxLen; omega) (by unfold maxLen; omega) (by omega) (by omega)).mono ?_
  rintro e w3 ⟨AW0, cW0, rfl, hb, h_W0⟩
  have B3 := Lib.hid (B2.out.trans (hb.mono B2.out.size))
  have s3 := hb.size
  replace A0 := Lib.hid (A0.out.below hb (by omega))
  replace C0 := Lib.hid (C0.out.below hb (by omega))
  replace P1 := Lib.hid (P1.out.below hb (by omega))
  replace P2 := Lib.hid (P2.out.below hb (by omega))
  have W0 := Lib.hid (OwnInts.of h_W0 (Nat.le_refl _))
  clear hb h_W0
  go_wp2_with fail
  refine (toIntS_any _ len0 cap0 _ _ _ _ A0.out (by omega) (by omega)).mono ?_
  rintro e w4 ⟨gX0, rfl, hb, h_X0⟩
  have B4 := Lib.hid (B3.out.trans (hb.mono B3.out.size))
  have s4 := hb.size
  replace A0 := Lib.hid (A0.out.below hb (by omega))
  replace C0 := Lib.hid (C0.out.below hb (by omega))
  replace P1 := Lib.hid (P1.out.below hb (by omega))
  replace P2 := Lib.hid (P2.out.below hb (by omega))
  replace W0 := Lib.hid (W0.out.below hb (by omega))
  have X0 := Lib.hid (OwnInts.of h_X0 (Nat.le_refl _))
  clear hb h_X0
  go_wp2_with fail
  refine (toIntS_any _ len1 cap1 _ _ _ _ C0.out (by omega) (by omega)).mono ?_
  rintro e w5 ⟨gX1, rfl, hb, h_X1⟩
  have B5 := Lib.hid (B4.out.trans (hb.mono B4.out.size))
  have s5 := hb.size
  replace A0 := Lib.hid (A0.out.below hb (by omega))
  replace C0 := Lib.hid (C0.out.below hb (by omega))
  replace P1 := Lib.hid (P1.out.below hb (by omega))
  replace P2 := Lib.hid (P2.out.below hb (by omega))
  replace W0 := Lib.hid (W0.out.below hb (by omega))
  replace X0 := Lib.hid (X0.out.below hb (by omega))
  have X1 := Lib.hid (OwnInts.of h_X1 (Nat.le_refl _))
  clear hb h_X1
  go_wp2_with fail
  refine (iVvJoin_any _ _ _ _ _ _ xs ys _ _ _ _ _ X0.out.ints X1.out.ints (by unfold maxLen; omega) (by unfold maxLen; omega) (by omega) (by omega)).mono ?_
  rintro e w6 ⟨AG0, cG0, rfl, hb, h_G0⟩
  have B6 := Lib.hid (B5.out.trans (hb.mono B5.out.size))
  have s6 := hb.size
  replace A0 := Lib.hid (A0.out.below hb (by omega))
  replace C0 := Lib.hid (C0.out.below hb (by omega))
  replace P1 := Lib.hid (P1.out.below hb (by omega))
  replace P2 := Lib.hid (P2.out.below hb (by omega))
  replace W0 := Lib.hid (W0.out.below hb (by omega))
  replace X0 := Lib.hid (X0.out.below hb (by omega))
  replace X1 := Lib.hid (X1.out.below hb (by omega))
  have G0 := Lib.hid (OwnInts.of h_G0 (Nat.le_refl _))
  clear hb h_G0
  go_wp2_with fail
  refine (eqIntS_any _ _ _ _ _ _ _ _ _ _ _ _ _ G0.out.ints W0.out.ints (by unfold maxLen; omega)).mono ?_
  rintro e w7 ⟨rfl, hw⟩
  have hb := bel_of_drew hw
  have B7 := Lib.hid (B6.out.trans (hb.mono B6.out.size))
  have s7 := hb.size
  replace A0 := Lib.hid (A0.out.below hb (by omega))
  replace C0 := Lib.hid (C0.out.below hb (by omega))
  replace P1 := Lib.hid (P1.out.below hb (by omega))
  replace P2 := Lib.hid (P2.out.below hb (by omega))
  replace W0 := Lib.hid (W0.out.below hb (by omega))
  replace X0 := Lib.hid (X0.out.below hb (by omega))
  replace X1 := Lib.hid (X1.out.below hb (by omega))
  replace G0 := Lib.hid (G0.out.below hb (by omega))
  clear hb hw
  go_wp2_with fail
  refine (toIntS_any _ len0 cap0 _ _ _ _ A0.out (by omega) (by omega)).mono ?_
  rintro e w8 ⟨gT0, rfl, hb, h_T0⟩
  have B8 := Lib.hid (B7.out.trans (hb.mono B7.out.size))
  have s8 := hb.size
  replace A0 := Lib.hid (A0.out.below hb (by omega))
  replace C0 := Lib.hid (C0.out.below hb (by omega))
  replace P1 := Lib.hid (P1.out.below hb (by omega))
  replace P2 := Lib.hid (P2.out.below hb (by omega))
  replace W0 := Lib.hid (W0.out.below hb (by omega))
  replace X0 := Lib.hid (X0.out.below hb (by omega))
  replace X1 := Lib.hid (X1.out.below hb (by omega))
  replace G0 := Lib.hid (G0.out.below hb (by omega))
  have T0 := Lib.hid (OwnInts.of h_T0 (Nat.le_refl _))
  clear hb h_T0
  go_wp2_with fail
  refine (eqIntS_any _ _ _ _ _ _ _ _ _ _ _ _ _ X0.out.ints T0.out.ints (by unfold maxLen; omega)).mono ?_
  rintro e w9 ⟨rfl, hw⟩
  have hb := bel_of_drew hw
  have B9 := Lib.hid (B8.out.trans (hb.mono B8.out.size))
  have s9 := hb.size
  replace A0 := Lib.hid (A0.out.below hb (by omega))
  replace C0 := Lib.hid (C0.out.below hb (by omega))
  replace P1 := Lib.hid (P1.out.below hb (by omega))
  replace P2 := Lib.hid (P2.out.below hb (by omega))
  replace W0 := Lib.hid (W0.out.below hb (by omega))
  replace X0 := Lib.hid (X0.out.below hb (by omega))
  replace X1 := Lib.hid (X1.out.below hb (by omega))
  replace G0 := Lib.hid (G0.out.below hb (by omega))
  replace T0 := Lib.hid (T0.out.below hb (by omega))
  clear hb hw
  go_wp2_with fail
  refine (toIntS_any _ len1 cap1 _ _ _ _ C0.out (by omega) (by omega)).mono ?_
  rintro e w10 ⟨gT1, rfl, hb, h_T1⟩
  have B10 := Lib.hid (B9.out.trans (hb.mono B9.out.size))
  have s10 := hb.size
  replace A0 := Lib.hid (A0.out.below hb (by omega))
  replace C0 := Lib.hid (C0.out.below hb (by omega))
  replace P1 := Lib.hid (P1.out.below hb (by omega))
  replace P2 := Lib.hid (P2.out.below hb (by omega))
  replace W0 := Lib.hid (W0.out.below hb (by omega))
  replace X0 := Lib.hid (X0.out.below hb (by omega))
  replace X1 := Lib.hid (X1.out.below hb (by omega))
  replace G0 := Lib.hid (G0.out.below hb (by omega))
  replace T0 := Lib.hid (T0.out.below hb (by omega))
  have T1 := Lib.hid (OwnInts.of h_T1 (Nat.le_refl _))
  clear hb h_T1
  go_wp2_with fail
  refine (eqIntS_any _ _ _ _ _ _ _ _ _ _ _ _ _ X1.out.ints T1.out.ints (by unfold maxLen; omega)).mono ?_
  rintro e w11 ⟨rfl, hw⟩
  have hb := bel_of_drew hw
  have B11 := Lib.hid (B10.out.trans (hb.mono B10.out.size))
  have s11 := hb.size
  replace A0 := Lib.hid (A0.out.below hb (by omega))
  replace C0 := Lib.hid (C0.out.below hb (by omega))
  replace P1 := Lib.hid (P1.out.below hb (by omega))
  replace P2 := Lib.hid (P2.out.below hb (by omega))
  replace W0 := Lib.hid (W0.out.below hb (by omega))
  replace X0 := Lib.hid (X0.out.below hb (by omega))
  replace X1 := Lib.hid (X1.out.below hb (by omega))
  replace G0 := Lib.hid (G0.out.below hb (by omega))
  replace T0 := Lib.hid (T0.out.below hb (by omega))
  replace T1 := Lib.hid (T1.out.below hb (by omega))
  clear hb hw
  go_wp2_with fail
  refine (markIntS_any _ _ _ _ _ _ _ _ X0.out (by omega) (by omega) (by omega)).mono ?_
  rintro e w12 ⟨rfl, hI, h_new⟩
  have B12 := Lib.hid (B11.out.trans (hI.below (by omega)))
  have s12 := (hI.below (B := 0) (Nat.zero_le _)).size
  replace A0 := Lib.hid (A0.out.keep (hI.keep (by omega)))
  replace C0 := Lib.hid (C0.out.keep (hI.keep (by omega)))
  replace W0 := Lib.hid (W0.out.keep (hI.keep (by omega)))
  replace X1 := Lib.hid (X1.out.keep (hI.keep (by omega)))
  replace G0 := Lib.hid (G0.out.keep (hI.keep (by omega)))
  replace X0 := Lib.hid h_new
  clear hI h_new
  go_wp2_with fail
  refine (markIntS_any _ _ _ _ _ _ _ _ X1.out (by omega) (by omega) (by omega)).mono ?_
  rintro e w13 ⟨rfl, hI, h_new⟩
  have B13 := Lib.hid (B12.out.trans (hI.below (by omega)))
  have s13 := (hI.below (B := 0) (Nat.zero_le _)).size
  replace A0 := Lib.hid (A0.out.keep (hI.keep (by omega)))
  replace C0 := Lib.hid (C0.out.keep (hI.keep (by omega)))
  replace W0 := Lib.hid (W0.out.keep (hI.keep (by omega)))
  replace X0 := Lib.hid (X0.out.keep (hI.keep (by omega)))
  replace G0 := Lib.hid (G0.out.keep (hI.keep (by omega)))
  replace X1 := Lib.hid h_new
  clear hI h_new
  go_wp2_with fail
  refine (eqIntS_any _ _ _ _ _ _ _ _ _ _ _ _ _ G0.out.ints W0.out.ints (by unfold maxLen; omega)).mono ?_
  rintro e w14 ⟨rfl, hw⟩
  have hb := bel_of_drew hw
  have B14 := Lib.hid (B13.out.trans (hb.mono B13.out.size))
  have s14 := hb.size
  replace A0 := Lib.hid (A0.out.below hb (by omega))
  replace C0 := Lib.hid (C0.out.below hb (by omega))
  replace W0 := Lib.hid (W0.out.below hb (by omega))
  replace X0 := Lib.hid (X0.out.below hb (by omega))
  replace X1 := Lib.hid (X1.out.below hb (by omega))
  replace G0 := Lib.hid (G0.out.below hb (by omega))
  clear hb hw
  go_wp2_with fail
  refine (markIntS_any _ _ _ _ _ _ _ _ G0.out (by omega) (by omega) (by omega)).mono ?_
  rintro e w15 ⟨rfl, hI, h_new⟩
  have B15 := Lib.hid (B14.out.trans (hI.below (by omega)))
  have s15 := (hI.below (B := 0) (Nat.zero_le _)).size
  replace A0 := Lib.hid (A0.out.keep (hI.keep (by omega)))
  replace C0 := Lib.hid (C0.out.keep (hI.keep (by omega)))
  replace W0 := Lib.hid (W0.out.keep (hI.keep (by omega)))
  replace X0 := Lib.hid (X0.out.keep (hI.keep (by omega)))
  replace X1 := Lib.hid (X1.out.keep (hI.keep (by omega)))
  replace G0 := Lib.hid h_new
  clear hI h_new
  go_wp2_with fail
  refine (heldIntS_any _ _ _ _ _ _ _ G0.out.ints (by omega) (by omega) (by omega)).mono ?_
  rintro e w16 ⟨rfl, hw⟩
  have hb := bel_of_eq hw
  have B16 := Lib.hid (B15.out.trans (hb.mono B15.out.size))
  have s16 := hb.size
  replace A0 := Lib.hid (A0.out.below hb (by omega))
  replace C0 := Lib.hid (C0.out.below hb (by omega))
  replace W0 := Lib.hid (W0.out.below hb (by omega))
  replace X0 := Lib.hid (X0.out.below hb (by omega))
  replace X1 := Lib.hid (X1.out.below hb (by omega))
  replace G0 := Lib.hid (G0.out.below hb (by omega))
  clear hb hw
  go_wp2_with fail
  refine (toIntS_any _ len0 cap0 _ _ _ _ A0.out (by omega) (by omega)).mono ?_
  rintro e w17 ⟨gQ1, rfl, hb, h_Q1⟩
  have B17 := Lib.hid (B16.out.trans (hb.mono B16.out.size))
  have s17 := hb.size
  replace A0 := Lib.hid (A0.out.below hb (by omega))
  replace C0 := Lib.hid (C0.out.below hb (by omega))
  replace W0 := Lib.hid (W0.out.below hb (by omega))
  replace X0 := Lib.hid (X0.out.below hb (by omega))
  replace X1 := Lib.hid (X1.out.below hb (by omega))
  replace G0 := Lib.hid (G0.out.below hb (by omega))
  have Q1 := Lib.hid (OwnInts.of h_Q1 (Nat.le_refl _))
  clear hb h_Q1
  go_wp2_with fail
  refine (toIntS_any _ len1 cap1 _ _ _ _ C0.out (by omega) (by omega)).mono ?_
  rintro e w18 ⟨gQ2, rfl, hb, h_Q2⟩
  have B18 := Lib.hid (B17.out.trans (hb.mono B17.out.size))
  have s18 := hb.size
  replace A0 := Lib.hid (A0.out.below hb (by omega))
  replace C0 := Lib.hid (C0.out.below hb (by omega))
  replace W0 := Lib.hid (W0.out.below hb (by omega))
  replace X0 := Lib.hid (X0.out.below hb (by omega))
  replace X1 := Lib.hid (X1.out.below hb (by omega))
  replace G0 := Lib.hid (G0.out.below hb (by omega))
  replace Q1 := Lib.hid (Q1.out.below hb (by omega))
  have Q2 := Lib.hid (OwnInts.of h_Q2 (Nat.le_refl _))
  clear hb h_Q2
  go_wp2_with fail
  refine (iVvJoin_any _ _ _ _ _ _ xs ys _ _ _ _ _ Q1.out.ints Q2.out.ints (by unfold maxLen; omega) (by unfold maxLen; omega) (by omega) (by omega)).mono ?_
  rintro e w19 ⟨AH0, cH0, rfl, hb, h_H0⟩
  have B19 := Lib.hid (B18.out.trans (hb.mono B18.out.size))
  have s19 := hb.size
  replace A0 := Lib.hid (A0.out.below hb (by omega))
  replace C0 := Lib.hid (C0.out.below hb (by omega))
  replace W0 := Lib.hid (W0.out.below hb (by omega))
  replace X0 := Lib.hid (X0.out.below hb (by omega))
  replace X1 := Lib.hid (X1.out.below hb (by omega))
  replace G0 := Lib.hid (G0.out.below hb (by omega))
  replace Q1 := Lib.hid (Q1.out.below hb (by omega))
  replace Q2 := Lib.hid (Q2.out.below hb (by omega))
  have H0 := Lib.hid (OwnInts.of h_H0 (Nat.le_refl _))
  clear hb h_H0
  go_wp2_with fail
  refine (eqIntS_any _ _ _ _ _ _ _ _ _ _ _ _ _ H0.out.ints W0.out.ints (by unfold maxLen; omega)).mono ?_
  rintro e w20 ⟨rfl, hw⟩
  have hb := bel_of_drew hw
  have B20 := Lib.hid (B19.out.trans (hb.mono B19.out.size))
  have s20 := hb.size
  replace A0 := Lib.hid (A0.out.below hb (by omega))
  replace C0 := Lib.hid (C0.out.below hb (by omega))
  replace W0 := Lib.hid (W0.out.below hb (by omega))
  replace X0 := Lib.hid (X0.out.below hb (by omega))
  replace X1 := Lib.hid (X1.out.below hb (by omega))
  replace G0 := Lib.hid (G0.out.below hb (by omega))
  replace Q1 := Lib.hid (Q1.out.below hb (by omega))
  replace Q2 := Lib.hid (Q2.out.below hb (by omega))
  replace H0 := Lib.hid (H0.out.below hb (by omega))
  clear hb hw
  go_wp2_with fail
  refine (heldIntS_any _ _ _ _ _ _ _ G0.out.ints (by omega) (by omega) (by omega)).mono ?_
  rintro e w21 ⟨rfl, hw⟩
  have hb := bel_of_eq hw
  have B21 := Lib.hid (B20.out.trans (hb.mono B20.out.size))
  have s21 := hb.size
  replace A0 := Lib.hid (A0.out.below hb (by omega))
  replace C0 := Lib.hid (C0.out.below hb (by omega))
  replace W0 := Lib.hid (W0.out.below hb (by omega))
  replace X0 := Lib.hid (X0.out.below hb (by omega))
  replace X1 := Lib.hid (X1.out.below hb (by omega))
  replace G0 := Lib.hid (G0.out.below hb (by omega))
  replace Q1 := Lib.hid (Q1.out.below hb (by omega))
  replace Q2 := Lib.hid (Q2.out.below hb (by omega))
  replace H0 := Lib.hid (H0.out.below hb (by omega))
  clear hb hw
  go_wp2
  go_ret
  exact ⟨by simp, B21.out⟩

/-! ### THE ROW's STEP: WRITTEN OUT: LEAVE IT -/
set_option maxRecDepth 100000 in
theorem lifted (os : Os) (started : os.Started) (H : Type) (enc : TypeId × Value → H) :
    ReturnsInHanded {} Try.checked os 8 .any (Rows.fnExactVvJoinSpec.pre6 enc Try.prog Try.f8 Rows.fnExactVvJoinRow.domain false) (Rows.fnExactVvJoinSpec.post enc Try.prog Try.f8 false true false false) := by
  refine returnsInHanded_of_change (C := Try.checked) own started (by kernel_rfl) Try.func8
    (ChangeSpec.witness6 (enc := enc) (C := Try.checked) false ⟨#[], #[.slice none 0 0, .slice none 0 0], []⟩ 8 (by kernel_rfl) (by kernel_rfl) (by kernel_rfl) (by kernel_rfl)) ?_
  intro W base args ds gs before hval0 hW hcnd _
  have hval : ∀ (j : Nat) t v, Try.f8.params[j]? = some t → args[j]? = some v → Value.okWide Try.prog W .any base t v := hval0
  have hW' := hW
  obtain ⟨p, q, hA0, hV, rfl, hfz, hnd⟩ := hW
  have hA : DataW.TrodAll enc Try.prog W 0 (fun _ => true) true Try.f8.params.toList args.toList ds p := hA0
  rw [Try.params8] at hA hval
  obtain ⟨v0, vs0, d0, ds0, p0, q0, hargs, rfl, rfl, h0, r0⟩ := trodAll_cons hA
  obtain ⟨v1, vs1, d1, ds1, p1, q1, rfl, rfl, rfl, h1, r1⟩ := trodAll_cons r0
  obtain ⟨rfl, rfl, rfl⟩ := trodAll_nil r1
  obtain rfl : args = #[v0, v1] := by cases args; simp_all
  obtain ⟨rfl, rfl⟩ := trodVars_none hV
  obtain ⟨a0, len0, cap0, rfl⟩ := okWide_slice Try.underlying23 (hval 0 23 v0 rfl rfl)
  have k0 := h0
  have lt0 : ∀ x ∈ p0, x.block < W.heap.size := by obtain ⟨m, hm⟩ := k0; exact DataW.trod_lt m _ _ _ hm
  obtain ⟨z0, w0⟩ : ∃ zs, IsRow .i64 W a0 len0 cap0 zs := by
    obtain ⟨fuel, hf⟩ := h0
    rcases open_ints Try.underlying23 Try.underlying3 (by kernel_rfl) hf with ⟨hcs, _⟩ | ⟨x, l, c, zs, hcs, _, hl, hm, hz, _, hcell, hwz⟩
    · simp [Value.cells] at hcs
      obtain ⟨rfl, rfl, rfl⟩ := hcs
      exact ⟨[], .inl ⟨rfl, rfl, rfl, rfl⟩⟩
    · simp [Value.cells] at hcs
      obtain ⟨rfl, rfl, rfl⟩ := hcs
      exact ⟨zs, .inr ⟨_, rfl, hl, hm, by simpa using hz, hcell, hwz⟩⟩
  obtain ⟨a1, len1, cap1, rfl⟩ := okWide_slice Try.underlying23 (hval 1 23 v1 rfl rfl)
  have k1 := h1
  have lt1 : ∀ x ∈ p1, x.block < W.heap.size := by obtain ⟨m, hm⟩ := k1; exact DataW.trod_lt m _ _ _ hm
  obtain ⟨z1, w1⟩ : ∃ zs, IsRow .i64 W a1 len1 cap1 zs := by
    obtain ⟨fuel, hf⟩ := h1
    rcases open_ints Try.underlying23 Try.underlying3 (by kernel_rfl) hf with ⟨hcs, _⟩ | ⟨x, l, c, zs, hcs, _, hl, hm, hz, _, hcell, hwz⟩
    · simp [Value.cells] at hcs
      obtain ⟨rfl, rfl, rfl⟩ := hcs
      exact ⟨[], .inl ⟨rfl, rfl, rfl, rfl⟩⟩
    · simp [Value.cells] at hcs
      obtain ⟨rfl, rfl, rfl⟩ := hcs
      exact ⟨zs, .inr ⟨_, rfl, hl, hm, by simpa using hz, hcell, hwz⟩⟩
  clear hA0 hval0
  refine (walk a0 len0 cap0 z0 a1 len1 cap1 z1 W w0 w1).mono fun e W' ⟨he, bel⟩ => ?_
  subst he
  exact ⟨_, rfl, _, _, _, [], _, [], hW', trodAll_mk1 (shut_bool Try.underlying4 _), (trodAll_cons_mk (Below.trod laidOut (by kernel_rfl) (of_decide_eq_true (by kernel_rfl)) k0 bel lt0) (trodAll_cons_mk (Below.trod laidOut (by kernel_rfl) (of_decide_eq_true (by kernel_rfl)) k1 bel lt1) trodAll_mk0)), rfl, bel.frame _, fun h => by cases h⟩

theorem over : Rows.fnExactVvJoinRow.holds Try.pinned (OpenSpec.ofChange Rows.fnExactVvJoinSpec) :=
  OpenClaim.holds_of_wide 8 Try.f8 rfl rfl rfl rfl rfl rfl rfl ⟨rfl, rfl, rfl, rfl, rfl⟩ rfl rfl rfl rfl rfl (by kernel_rfl) Try.func8 (by kernel_rfl)
    (of_decide_eq_true (by kernel_rfl)) (by unfold Func.isWrapper; first | (rw [if_pos (by decide +kernel)]; kernel_rfl) | (rw [if_neg (by decide +kernel)]; exact ⟨rfl, rfl⟩))
    (fun os started H enc _ => lifted os started H enc)

/-- ████ THE STATEMENT ████ -/
theorem proved : Rows.FnExactVvJoinSaid := over
#print axioms proved
end Go.Proofs.Ytcpblncbljeccaa.fnExactVvJoin
