/-
  Proved: for every input the call of FnVvJoin returns true and what came in reads as before. No condition.
-/
import Derived.Test.YtcpblncbljeccaaLawKit2
import Derived.Test.YtcpblncbljeccaaRows
import Derived.WalkKit
import Derived.ProofKit
import Derived.OpenShut
import Derived.ShutString
import Derived.ChangeOld
import Derived.Below
namespace Go.Proofs.Ytcpblncbljeccaa.fnVvJoin
open Go.ChangeShapes Go.WideShapes Go.ChangeAt Go.RowKit
open Go.ChangeMaps (open_string shut_string)
set_option linter.unusedVariables false

theorem own : ownKnob Try.prog.godebug = none := by kernel_rfl
theorem laidOut : laidOutB Try.prog = true := by kernel_rfl

/-- WHAT THE WALK IS TOLD OF A SLICE OF INTEGERS THAT CAME IN: it is nil; or it leads to a row of 'cap' cells, the numbers 'zs' (the first 'len' are its elements, the rest its spare room), each fitting its kind. -/
def IsRow (k : IntKind) (w : World) (a : Option Addr) (len cap : Nat) (zs : List Int) : Prop :=
  (a = none ∧ len = 0 ∧ cap = 0 ∧ zs = []) ∨
  ∃ x, a = some x ∧ len ≤ cap ∧ cap ≤ maxLen ∧ zs.length = cap ∧ (∀ i, i < zs.length → w.cell? (x.add i) = some (.int k (zs.getD i 0))) ∧ ∀ n ∈ zs, (Lit.int k n).wf = true

/-! ### STEP 1: THE WALK: the Go text returns true, AND WRITES NOTHING THAT WAS THERE: 'Below w.heap.size w w'' (Derived/Below.lean: '.refl', '.alloc', '.drew', '.setCell' at a new block, '.trans'). Open each 'IsRow' by 'rcases' AHEAD of 'go_enter'; part every test ahead of the walk. -/
theorem walk (a0 : Option Addr) (len0 cap0 : Nat) (z0 : List Int) (a1 : Option Addr) (len1 cap1 : Nat) (z1 : List Int) (w : World) (w0 : IsRow .u8 w a0 len0 cap0 z0) (w1 : IsRow .u8 w a1 len1 cap1 z1) :
    Calls Try.prog 13 #[.slice a0 len0 cap0, .slice a1 len1 cap1] w fun e w' => e = .returned (.bool true) ∧ Below w.heap.size w w' := by
  by_cases big_len0 : 1048576 < len0
  · go_enter Try.func13, Try.ntmps13
    go_wp2
    go_ret
    exact ⟨rfl, Below.refl _ _⟩
  by_cases big_len1 : 1048576 < len1
  · go_enter Try.func13, Try.ntmps13
    go_wp2
    go_ret
    exact ⟨rfl, Below.refl _ _⟩
  have B0 := Lib.hid (Below.refl w.heap.size w)
  have C0 := Lib.hid (show Came w a0 len0 cap0 z0 from w0)
  clear w0 w1
  go_enter Try.func13, Try.ntmps13
  go_wp2_with fail
  refine (DrawVvJoin_h C0.out).mono ?_
  rintro e w1 ⟨A1, n1, c1, xs, A2, n2, c2, ys, rfl, hn1, hn2, hb, h_X, h_Y⟩
  have B1 := Lib.hid (B0.out.trans (hb.mono B0.out.size))
  replace C0 := Lib.hid (C0.out.step hb)
  have X := Lib.hid h_X
  have Y := Lib.hid h_Y
  clear hb h_X h_Y
  go_wp2_with fail
  refine (iVvJoin_h X.out Y.out (by unfold maxLen; omega) (by unfold maxLen; omega)).mono ?_
  rintro e w2 ⟨AJ, cJ, rfl, hb, h_J⟩
  have B2 := Lib.hid (B1.out.trans (hb.mono B1.out.size))
  replace X := Lib.hid (X.out.step hb)
  replace Y := Lib.hid (Y.out.step hb)
  have J := Lib.hid h_J
  clear hb h_J
  go_wp2_with fail
  refine (sVvJoin_h X.out Y.out (by unfold maxLen; omega) (by unfold maxLen; omega)).mono ?_
  rintro e w3 ⟨AS, cS, rfl, hb, h_S⟩
  have B3 := Lib.hid (B2.out.trans (hb.mono B2.out.size))
  replace X := Lib.hid (X.out.step hb)
  replace Y := Lib.hid (Y.out.step hb)
  replace J := Lib.hid (J.out.step hb)
  have S := Lib.hid h_S
  clear hb h_S
  have hj3 := vvJoinOk_le xs ys
  go_wp2_with fail
  refine (lvInts_h J.out S.out (by unfold maxLen; omega)).mono ?_
  rintro e w4 ⟨rfl, hb⟩
  have B4 := Lib.hid (B3.out.trans (hb.mono B3.out.size))
  replace X := Lib.hid (X.out.step hb)
  replace Y := Lib.hid (Y.out.step hb)
  replace J := Lib.hid (J.out.step hb)
  replace S := Lib.hid (S.out.step hb)
  clear hb
  by_cases k1 : vvOk xs = true
  · skip
    go_wp2_with fail
    refine (sVvOk_h X.out (by unfold maxLen; omega)).mono ?_
    rintro e w5 ⟨rfl, hb⟩
    have B5 := Lib.hid (B4.out.trans (hb.mono B4.out.size))
    replace X := Lib.hid (X.out.step hb)
    replace Y := Lib.hid (Y.out.step hb)
    replace J := Lib.hid (J.out.step hb)
    clear hb
    by_cases k2 : vvOk ys = true
    · skip
      go_wp2_with fail
      refine (sVvOk_h Y.out (by unfold maxLen; omega)).mono ?_
      rintro e w6 ⟨rfl, hb⟩
      have B6 := Lib.hid (B5.out.trans (hb.mono B5.out.size))
      replace X := Lib.hid (X.out.step hb)
      replace Y := Lib.hid (Y.out.step hb)
      replace J := Lib.hid (J.out.step hb)
      clear hb
      have hz : vvOk [(len1 : Int) % 6, (len1 : Int) / 2 % 6, (len1 : Int) / 3 % 6] = true := vvOk_mk (by omega)
      have HZ := Lib.hid hz
      clear hz
      have e1 := in_join_l k1 k2
      have e2 := in_join_r k1 k2
      have HI := Lib.hid (join_in k1 k2 HZ.out)
      have HC := Lib.hid (joinOk_comm k1 k2)
      have HS := Lib.hid (joinOk_self k1)
      have ZL := Lib.hid (show [(len1 : Int) % 6, (len1 : Int) / 2 % 6, (len1 : Int) / 3 % 6] = [(len1 : Int) % 6, (len1 : Int) / 2 % 6, (len1 : Int) / 3 % 6] from rfl)
      have hb := bel_alloc w6 (.cells #[.int .i64 ((len1 : Int) % 6), .int .i64 ((len1 : Int) / 2 % 6), .int .i64 ((len1 : Int) / 3 % 6)] 3)
      have h_CC := Has.three w6 ((len1 : Int) % 6) ((len1 : Int) / 2 % 6) ((len1 : Int) / 3 % 6)
      obtain ⟨zs, hzs⟩ : ∃ zs, zs = [(len1 : Int) % 6, (len1 : Int) / 2 % 6, (len1 : Int) / 3 % 6] := ⟨_, rfl⟩
      rw [← hzs] at h_CC HI HZ
      clear hzs ZL
      have CC := Lib.hid h_CC
      clear h_CC
      have B7 := Lib.hid (B6.out.trans (hb.mono B6.out.size))
      replace X := Lib.hid (X.out.step hb)
      replace Y := Lib.hid (Y.out.step hb)
      replace J := Lib.hid (J.out.step hb)
      clear hb
      by_cases m1 : vvInOk xs zs = true
      · skip
        go_wp2_with fail
        refine (iVvIn_h X.out CC.out (by unfold maxLen; omega) (by unfold maxLen; omega)).mono ?_
        rintro e w8 ⟨rfl, hb⟩
        have B8 := Lib.hid (B7.out.trans (hb.mono B7.out.size))
        replace X := Lib.hid (X.out.step hb)
        replace Y := Lib.hid (Y.out.step hb)
        replace J := Lib.hid (J.out.step hb)
        replace CC := Lib.hid (CC.out.step hb)
        clear hb
        have e3 : vvInOk (vvJoinOk xs ys) zs = vvInOk ys zs := by rw [HI.out, m1]; simp
        go_wp2_with fail
        refine (iVvIn_h Y.out CC.out (by unfold maxLen; omega) (by unfold maxLen; omega)).mono ?_
        rintro e w9 ⟨rfl, hb⟩
        have B9 := Lib.hid (B8.out.trans (hb.mono B8.out.size))
        replace X := Lib.hid (X.out.step hb)
        replace Y := Lib.hid (Y.out.step hb)
        replace J := Lib.hid (J.out.step hb)
        replace CC := Lib.hid (CC.out.step hb)
        clear hb
        go_wp2_with fail
        refine (iVvIn_h X.out J.out (by unfold maxLen; omega) (by unfold maxLen; omega)).mono ?_
        rintro e w10 ⟨rfl, hb⟩
        have B10 := Lib.hid (B9.out.trans (hb.mono B9.out.size))
        replace X := Lib.hid (X.out.step hb)
        replace Y := Lib.hid (Y.out.step hb)
        replace J := Lib.hid (J.out.step hb)
        replace CC := Lib.hid (CC.out.step hb)
        clear hb
        go_wp2_with fail
        refine (iVvIn_h Y.out J.out (by unfold maxLen; omega) (by unfold maxLen; omega)).mono ?_
        rintro e w11 ⟨rfl, hb⟩
        have B11 := Lib.hid (B10.out.trans (hb.mono B10.out.size))
        replace X := Lib.hid (X.out.step hb)
        replace Y := Lib.hid (Y.out.step hb)
        replace J := Lib.hid (J.out.step hb)
        replace CC := Lib.hid (CC.out.step hb)
        clear hb
        go_wp2_with fail
        refine (iVvIn_h J.out CC.out (by unfold maxLen; omega) (by unfold maxLen; omega)).mono ?_
        rintro e w12 ⟨rfl, hb⟩
        have B12 := Lib.hid (B11.out.trans (hb.mono B11.out.size))
        replace X := Lib.hid (X.out.step hb)
        replace Y := Lib.hid (Y.out.step hb)
        replace J := Lib.hid (J.out.step hb)
        replace CC := Lib.hid (CC.out.step hb)
        clear hb
        go_wp2_with fail
        refine (iVvJoin_h Y.out X.out (by unfold maxLen; omega) (by unfold maxLen; omega)).mono ?_
        rintro e w13 ⟨AK, cK, rfl, hb, h_K⟩
        have B13 := Lib.hid (B12.out.trans (hb.mono B12.out.size))
        replace X := Lib.hid (X.out.step hb)
        replace Y := Lib.hid (Y.out.step hb)
        replace J := Lib.hid (J.out.step hb)
        replace CC := Lib.hid (CC.out.step hb)
        have K := Lib.hid h_K
        clear hb h_K
        have hk3 := vvJoinOk_le ys xs
        go_wp2_with fail
        refine (lvInts_h K.out J.out (by unfold maxLen; omega)).mono ?_
        rintro e w14 ⟨rfl, hb⟩
        have B14 := Lib.hid (B13.out.trans (hb.mono B13.out.size))
        replace X := Lib.hid (X.out.step hb)
        replace Y := Lib.hid (Y.out.step hb)
        replace J := Lib.hid (J.out.step hb)
        replace CC := Lib.hid (CC.out.step hb)
        replace K := Lib.hid (K.out.step hb)
        clear hb
        have ec : decide (vvJoinOk ys xs = vvJoinOk xs ys) = true := decide_eq_true HC.out
        rw [ec]
        clear hk3 ec
        go_wp2_with fail
        refine (iVvJoin_h X.out X.out (by unfold maxLen; omega) (by unfold maxLen; omega)).mono ?_
        rintro e w15 ⟨AO, cO, rfl, hb, h_O⟩
        have B15 := Lib.hid (B14.out.trans (hb.mono B14.out.size))
        replace X := Lib.hid (X.out.step hb)
        replace Y := Lib.hid (Y.out.step hb)
        replace J := Lib.hid (J.out.step hb)
        replace CC := Lib.hid (CC.out.step hb)
        replace K := Lib.hid (K.out.step hb)
        have O := Lib.hid h_O
        clear hb h_O
        have ho3 := vvJoinOk_le xs xs
        go_wp2_with fail
        refine (lvInts_h O.out X.out (by unfold maxLen; omega)).mono ?_
        rintro e w16 ⟨rfl, hb⟩
        have B16 := Lib.hid (B15.out.trans (hb.mono B15.out.size))
        replace X := Lib.hid (X.out.step hb)
        replace Y := Lib.hid (Y.out.step hb)
        replace J := Lib.hid (J.out.step hb)
        replace CC := Lib.hid (CC.out.step hb)
        replace K := Lib.hid (K.out.step hb)
        replace O := Lib.hid (O.out.step hb)
        clear hb
        have es : decide (vvJoinOk xs xs = xs) = true := decide_eq_true HS.out
        rw [es]
        clear ho3 es
        go_wp2
        go_ret
        exact ⟨by simp, B16.out⟩
      · have m1' : vvInOk xs zs = false := by simpa using m1
        clear m1
        go_wp2_with fail
        refine (iVvIn_h X.out CC.out (by unfold maxLen; omega) (by unfold maxLen; omega)).mono ?_
        rintro e w8 ⟨rfl, hb⟩
        have B8 := Lib.hid (B7.out.trans (hb.mono B7.out.size))
        replace X := Lib.hid (X.out.step hb)
        replace Y := Lib.hid (Y.out.step hb)
        replace J := Lib.hid (J.out.step hb)
        replace CC := Lib.hid (CC.out.step hb)
        clear hb
        have e3 : vvInOk (vvJoinOk xs ys) zs = false := by rw [HI.out, m1']; simp
        go_wp2_with fail
        refine (iVvIn_h X.out J.out (by unfold maxLen; omega) (by unfold maxLen; omega)).mono ?_
        rintro e w9 ⟨rfl, hb⟩
        have B9 := Lib.hid (B8.out.trans (hb.mono B8.out.size))
        replace X := Lib.hid (X.out.step hb)
        replace Y := Lib.hid (Y.out.step hb)
        replace J := Lib.hid (J.out.step hb)
        replace CC := Lib.hid (CC.out.step hb)
        clear hb
        go_wp2_with fail
        refine (iVvIn_h Y.out J.out (by unfold maxLen; omega) (by unfold maxLen; omega)).mono ?_
        rintro e w10 ⟨rfl, hb⟩
        have B10 := Lib.hid (B9.out.trans (hb.mono B9.out.size))
        replace X := Lib.hid (X.out.step hb)
        replace Y := Lib.hid (Y.out.step hb)
        replace J := Lib.hid (J.out.step hb)
        replace CC := Lib.hid (CC.out.step hb)
        clear hb
        go_wp2_with fail
        refine (iVvIn_h J.out CC.out (by unfold maxLen; omega) (by unfold maxLen; omega)).mono ?_
        rintro e w11 ⟨rfl, hb⟩
        have B11 := Lib.hid (B10.out.trans (hb.mono B10.out.size))
        replace X := Lib.hid (X.out.step hb)
        replace Y := Lib.hid (Y.out.step hb)
        replace J := Lib.hid (J.out.step hb)
        replace CC := Lib.hid (CC.out.step hb)
        clear hb
        go_wp2_with fail
        refine (iVvJoin_h Y.out X.out (by unfold maxLen; omega) (by unfold maxLen; omega)).mono ?_
        rintro e w12 ⟨AK, cK, rfl, hb, h_K⟩
        have B12 := Lib.hid (B11.out.trans (hb.mono B11.out.size))
        replace X := Lib.hid (X.out.step hb)
        replace Y := Lib.hid (Y.out.step hb)
        replace J := Lib.hid (J.out.step hb)
        replace CC := Lib.hid (CC.out.step hb)
        have K := Lib.hid h_K
        clear hb h_K
        have hk3 := vvJoinOk_le ys xs
        go_wp2_with fail
        refine (lvInts_h K.out J.out (by unfold maxLen; omega)).mono ?_
        rintro e w13 ⟨rfl, hb⟩
        have B13 := Lib.hid (B12.out.trans (hb.mono B12.out.size))
        replace X := Lib.hid (X.out.step hb)
        replace Y := Lib.hid (Y.out.step hb)
        replace J := Lib.hid (J.out.step hb)
        replace CC := Lib.hid (CC.out.step hb)
        replace K := Lib.hid (K.out.step hb)
        clear hb
        have ec : decide (vvJoinOk ys xs = vvJoinOk xs ys) = true := decide_eq_true HC.out
        rw [ec]
        clear hk3 ec
        go_wp2_with fail
        refine (iVvJoin_h X.out X.out (by unfold maxLen; omega) (by unfold maxLen; omega)).mono ?_
        rintro e w14 ⟨AO, cO, rfl, hb, h_O⟩
        have B14 := Lib.hid (B13.out.trans (hb.mono B13.out.size))
        replace X := Lib.hid (X.out.step hb)
        replace Y := Lib.hid (Y.out.step hb)
        replace J := Lib.hid (J.out.step hb)
        replace CC := Lib.hid (CC.out.step hb)
        replace K := Lib.hid (K.out.step hb)
        have O := Lib.hid h_O
        clear hb h_O
        have ho3 := vvJoinOk_le xs xs
        go_wp2_with fail
        refine (lvInts_h O.out X.out (by unfold maxLen; omega)).mono ?_
        rintro e w15 ⟨rfl, hb⟩
        have B15 := Lib.hid (B14.out.trans (hb.mono B14.out.size))
        replace X := Lib.hid (X.out.step hb)
        replace Y := Lib.hid (Y.out.step hb)
        replace J := Lib.hid (J.out.step hb)
        replace CC := Lib.hid (CC.out.step hb)
        replace K := Lib.hid (K.out.step hb)
        replace O := Lib.hid (O.out.step hb)
        clear hb
        have es : decide (vvJoinOk xs xs = xs) = true := decide_eq_true HS.out
        rw [es]
        clear ho3 es
        go_wp2
        go_ret
        exact ⟨by simp, B15.out⟩
    · have k2' : vvOk ys = false := by simpa using k2
      clear k2
      go_wp2_with fail
      refine (sVvOk_h Y.out (by unfold maxLen; omega)).mono ?_
      rintro e w6 ⟨rfl, hb⟩
      have B6 := Lib.hid (B5.out.trans (hb.mono B5.out.size))
      replace X := Lib.hid (X.out.step hb)
      replace Y := Lib.hid (Y.out.step hb)
      replace J := Lib.hid (J.out.step hb)
      clear hb
      go_wp2_with fail
      refine (sVvJoin_h X.out Y.out (by unfold maxLen; omega) (by unfold maxLen; omega)).mono ?_
      rintro e w7 ⟨AS2, cS2, rfl, hb, h_S2⟩
      have B7 := Lib.hid (B6.out.trans (hb.mono B6.out.size))
      replace X := Lib.hid (X.out.step hb)
      replace Y := Lib.hid (Y.out.step hb)
      replace J := Lib.hid (J.out.step hb)
      have S2 := Lib.hid h_S2
      clear hb h_S2
      go_wp2_with fail
      refine (lvInts_h J.out S2.out (by unfold maxLen; omega)).mono ?_
      rintro e w8 ⟨rfl, hb⟩
      have B8 := Lib.hid (B7.out.trans (hb.mono B7.out.size))
      replace X := Lib.hid (X.out.step hb)
      replace Y := Lib.hid (Y.out.step hb)
      replace J := Lib.hid (J.out.step hb)
      replace S2 := Lib.hid (S2.out.step hb)
      clear hb
      go_wp2
      go_ret
      exact ⟨by simp, B8.out⟩
  · have k1' : vvOk xs = false := by simpa using k1
    clear k1
    go_wp2_with fail
    refine (sVvOk_h X.out (by unfold maxLen; omega)).mono ?_
    rintro e w5 ⟨rfl, hb⟩
    have B5 := Lib.hid (B4.out.trans (hb.mono B4.out.size))
    replace X := Lib.hid (X.out.step hb)
    replace Y := Lib.hid (Y.out.step hb)
    replace J := Lib.hid (J.out.step hb)
    clear hb
    go_wp2_with fail
    refine (sVvJoin_h X.out Y.out (by unfold maxLen; omega) (by unfold maxLen; omega)).mono ?_
    rintro e w6 ⟨AS2, cS2, rfl, hb, h_S2⟩
    have B6 := Lib.hid (B5.out.trans (hb.mono B5.out.size))
    replace X := Lib.hid (X.out.step hb)
    replace Y := Lib.hid (Y.out.step hb)
    replace J := Lib.hid (J.out.step hb)
    have S2 := Lib.hid h_S2
    clear hb h_S2
    go_wp2_with fail
    refine (lvInts_h J.out S2.out (by unfold maxLen; omega)).mono ?_
    rintro e w7 ⟨rfl, hb⟩
    have B7 := Lib.hid (B6.out.trans (hb.mono B6.out.size))
    replace X := Lib.hid (X.out.step hb)
    replace Y := Lib.hid (Y.out.step hb)
    replace J := Lib.hid (J.out.step hb)
    replace S2 := Lib.hid (S2.out.step hb)
    clear hb
    go_wp2
    go_ret
    exact ⟨by simp, B7.out⟩

/-! ### THE ROW's STEP: WRITTEN OUT: LEAVE IT -/
set_option maxRecDepth 100000 in
theorem lifted (os : Os) (started : os.Started) (H : Type) (enc : TypeId × Value → H) :
    ReturnsInHanded {} Try.checked os 13 .any (Rows.fnVvJoinSpec.pre6 enc Try.prog Try.f13 Rows.fnVvJoinRow.domain false) (Rows.fnVvJoinSpec.post enc Try.prog Try.f13 false true false false) := by
  refine returnsInHanded_of_change (C := Try.checked) own started (by kernel_rfl) Try.func13
    (ChangeSpec.witness6 (enc := enc) (C := Try.checked) false ⟨#[], #[.slice none 0 0, .slice none 0 0], []⟩ 8 (by kernel_rfl) (by kernel_rfl) (by kernel_rfl) (by kernel_rfl)) ?_
  intro W base args ds gs before hval0 hW hcnd _
  have hval : ∀ (j : Nat) t v, Try.f13.params[j]? = some t → args[j]? = some v → Value.okWide Try.prog W .any base t v := hval0
  have hW' := hW
  obtain ⟨p, q, hA0, hV, rfl, hfz, hnd⟩ := hW
  have hA : DataW.TrodAll enc Try.prog W 0 (fun _ => true) true Try.f13.params.toList args.toList ds p := hA0
  rw [Try.params13] at hA hval
  obtain ⟨v0, vs0, d0, ds0, p0, q0, hargs, rfl, rfl, h0, r0⟩ := trodAll_cons hA
  obtain ⟨v1, vs1, d1, ds1, p1, q1, rfl, rfl, rfl, h1, r1⟩ := trodAll_cons r0
  obtain ⟨rfl, rfl, rfl⟩ := trodAll_nil r1
  obtain rfl : args = #[v0, v1] := by cases args; simp_all
  obtain ⟨rfl, rfl⟩ := trodVars_none hV
  obtain ⟨a0, len0, cap0, rfl⟩ := okWide_slice Try.underlying27 (hval 0 27 v0 rfl rfl)
  have k0 := h0
  have lt0 : ∀ x ∈ p0, x.block < W.heap.size := by obtain ⟨m, hm⟩ := k0; exact DataW.trod_lt m _ _ _ hm
  obtain ⟨z0, w0⟩ : ∃ zs, IsRow .u8 W a0 len0 cap0 zs := by
    obtain ⟨fuel, hf⟩ := h0
    rcases open_ints Try.underlying27 Try.underlying5 (by kernel_rfl) hf with ⟨hcs, _⟩ | ⟨x, l, c, zs, hcs, _, hl, hm, hz, _, hcell, hwz⟩
    · simp [Value.cells] at hcs
      obtain ⟨rfl, rfl, rfl⟩ := hcs
      exact ⟨[], .inl ⟨rfl, rfl, rfl, rfl⟩⟩
    · simp [Value.cells] at hcs
      obtain ⟨rfl, rfl, rfl⟩ := hcs
      exact ⟨zs, .inr ⟨_, rfl, hl, hm, by simpa using hz, hcell, hwz⟩⟩
  obtain ⟨a1, len1, cap1, rfl⟩ := okWide_slice Try.underlying27 (hval 1 27 v1 rfl rfl)
  have k1 := h1
  have lt1 : ∀ x ∈ p1, x.block < W.heap.size := by obtain ⟨m, hm⟩ := k1; exact DataW.trod_lt m _ _ _ hm
  obtain ⟨z1, w1⟩ : ∃ zs, IsRow .u8 W a1 len1 cap1 zs := by
    obtain ⟨fuel, hf⟩ := h1
    rcases open_ints Try.underlying27 Try.underlying5 (by kernel_rfl) hf with ⟨hcs, _⟩ | ⟨x, l, c, zs, hcs, _, hl, hm, hz, _, hcell, hwz⟩
    · simp [Value.cells] at hcs
      obtain ⟨rfl, rfl, rfl⟩ := hcs
      exact ⟨[], .inl ⟨rfl, rfl, rfl, rfl⟩⟩
    · simp [Value.cells] at hcs
      obtain ⟨rfl, rfl, rfl⟩ := hcs
      exact ⟨zs, .inr ⟨_, rfl, hl, hm, by simpa using hz, hcell, hwz⟩⟩
  clear hA0 hval0
  refine (walk a0 len0 cap0 z0 a1 len1 cap1 z1 W w0 w1).mono fun e W' ⟨he, bel⟩ => ?_
  subst he
  exact ⟨_, rfl, _, _, _, [], _, [], hW', trodAll_mk1 (shut_bool Try.underlying4 _), (trodAll_cons_mk (Below.trod laidOut (by kernel_rfl) (of_decide_eq_true (by kernel_rfl)) k0 bel lt0) (trodAll_cons_mk (Below.trod laidOut (by kernel_rfl) (of_decide_eq_true (by kernel_rfl)) k1 bel lt1) trodAll_mk0)), rfl, bel.frame _, fun h => by cases h⟩

theorem over : Rows.fnVvJoinRow.holds Try.pinned (OpenSpec.ofChange Rows.fnVvJoinSpec) :=
  OpenClaim.holds_of_wide 13 Try.f13 rfl rfl rfl rfl rfl rfl rfl ⟨rfl, rfl, rfl, rfl, rfl⟩ rfl rfl rfl rfl rfl (by kernel_rfl) Try.func13 (by kernel_rfl)
    (of_decide_eq_true (by kernel_rfl)) (by unfold Func.isWrapper; first | (rw [if_pos (by decide +kernel)]; kernel_rfl) | (rw [if_neg (by decide +kernel)]; exact ⟨rfl, rfl⟩))
    (fun os started H enc _ => lifted os started H enc)

/-- ████ THE STATEMENT ████ -/
theorem proved : Rows.FnVvJoinSaid := over
#print axioms proved
end Go.Proofs.Ytcpblncbljeccaa.fnVvJoin
