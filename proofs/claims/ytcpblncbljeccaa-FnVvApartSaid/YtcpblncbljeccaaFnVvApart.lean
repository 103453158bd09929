/-
  Proved: for every input the call of FnVvApart returns true and what came in reads as before. No condition.
-/
import Derived.Test.YtcpblncbljeccaaLawKit2
import Derived.Test.YtcpblncbljeccaaRows
import Derived.WalkKit
import Derived.ProofKit
import Derived.OpenShut
import Derived.ShutString
import Derived.ChangeOld
import Derived.Below
namespace Go.Proofs.Ytcpblncbljeccaa.fnVvApart
open Go.ChangeShapes Go.WideShapes Go.ChangeAt Go.RowKit
open Go.ChangeMaps (open_string shut_string)
set_option linter.unusedVariables false

theorem own : ownKnob Try.prog.godebug = none := by kernel_rfl
theorem laidOut : laidOutB Try.prog = true := by kernel_rfl

/-- WHAT THE WALK IS TOLD OF A SLICE OF INTEGERS THAT CAME IN: it is nil; or it leads to a row of 'cap' cells, the numbers 'zs' (the first 'len' are its elements, the rest its spare room), each fitting its kind. -/
def IsRow (k : IntKind) (w : World) (a : Option Addr) (len cap : Nat) (zs : List Int) : Prop :=
  (a = none ∧ len = 0 ∧ cap = 0 ∧ zs = []) ∨
  ∃ x, a = some x ∧ len ≤ cap ∧ cap ≤ maxLen ∧ zs.length = cap ∧ (∀ i, i < zs.length → w.cell? (x.add i) = some (.int k (zs.getD i 0))) ∧ ∀ n ∈ zs, (Lit.int k n).wf = true

/-! ### STEP 1: THE WALK: the Go text returns true, AND WRITES NOTHING THAT WAS THERE: 'Below w.heap.size w w'' (Derived/Below.lean: '.refl', '.alloc', '.drew', '.setCell' at a new block, '.trans'). Open each 'IsRow' by 'rcases' AHEAD of 'go_enter'; part every test ahead of the walk. -/
theorem walk (a0 : Option Addr) (len0 cap0 : Nat) (z0 : List Int) (a1 : Option Addr) (len1 cap1 : Nat) (z1 : List Int) (w : World) (w0 : IsRow .u8 w a0 len0 cap0 z0) (w1 : IsRow .u8 w a1 len1 cap1 z1) :
    Calls Try.prog 12 #[.slice a0 len0 cap0, .slice a1 len1 cap1] w fun e w' => e = .returned (.bool true) ∧ Below w.heap.size w w' := by
  by_cases big_len0 : 1048576 < len0
  · go_enter Try.func12, Try.ntmps12
    go_wp2
    go_ret
    exact ⟨rfl, Below.refl _ _⟩
  by_cases big_len1 : 1048576 < len1
  · go_enter Try.func12, Try.ntmps12
    go_wp2
    go_ret
    exact ⟨rfl, Below.refl _ _⟩
  have B0 := Lib.hid (Below.refl w.heap.size w)
  have C0 := Lib.hid (show Came w a0 len0 cap0 z0 from w0)
  clear w0 w1
  go_enter Try.func12, Try.ntmps12
  go_wp2_with fail
  refine (DrawVvNext_h C0.out).mono ?_
  rintro e w1 ⟨A1, n1, c1, xs, s, rfl, hn1, hb, h_X, hs1, hs2⟩
  have B1 := Lib.hid (B0.out.trans (hb.mono B0.out.size))
  replace C0 := Lib.hid (C0.out.step hb)
  have X := Lib.hid h_X
  clear hb h_X
  have hl1 := @vvNext_len xs s
  go_wp2_with fail
  refine (sVvNext_h X.out (by unfold maxLen; omega) s).mono ?_
  rintro e w2 ⟨AW, cW, rfl, hb, h_W⟩
  have B2 := Lib.hid (B1.out.trans (hb.mono B1.out.size))
  replace X := Lib.hid (X.out.step hb)
  have W := Lib.hid h_W
  clear hb h_W
  go_wp2_with fail
  refine (iVvNext_h X.out (by unfold maxLen; omega) s).mono ?_
  rintro e w3 ⟨AY, cY, rfl, hb, h_Y⟩
  have B3 := Lib.hid (B2.out.trans (hb.mono B2.out.size))
  replace X := Lib.hid (X.out.step hb)
  replace W := Lib.hid (W.out.step hb)
  have Y := Lib.hid h_Y
  clear hb h_Y
  by_cases k1 : nextOk xs s = true
  · skip
    have hs3 : s ≤ 3 := by have := next_form k1; omega
    go_wp2_with fail
    refine (lvInts_h Y.out W.out (by unfold maxLen; omega)).mono ?_
    rintro e w4 ⟨rfl, hb⟩
    have B4 := Lib.hid (B3.out.trans (hb.mono B3.out.size))
    replace X := Lib.hid (X.out.step hb)
    replace W := Lib.hid (W.out.step hb)
    replace Y := Lib.hid (Y.out.step hb)
    clear hb
    obtain ⟨o, ho⟩ : ∃ o, o = (s + (len1 : Int) % 2) % 3 + 1 := ⟨_, rfl⟩
    have HO := Lib.hid ho
    have ho1 : 1 ≤ o ∧ o ≤ 3 := by omega
    clear ho
    have hl2 := @vvNext_len xs o
    go_wp2_with fail
    rw [← HO.out]
    skip
    refine (iVvNext_h X.out (by unfold maxLen; omega) o).mono ?_
    rintro e w5 ⟨AZ, cZ, rfl, hb, h_Z⟩
    have B5 := Lib.hid (B4.out.trans (hb.mono B4.out.size))
    replace X := Lib.hid (X.out.step hb)
    replace Y := Lib.hid (Y.out.step hb)
    have Z := Lib.hid h_Z
    clear hb h_Z
    by_cases q1 : o = s
    · subst q1
      go_wp2
      go_ret
      exact ⟨by simp, B5.out⟩
    · have q1' : (o == s) = false := by simpa using q1
      have Q1 := Lib.hid q1
      clear q1
      by_cases k2 : nextOk xs o = true
      · skip
        have AP := Lib.hid (apart k1 k2 Q1.out)
        have p1 := AP.out.1
        have p2 := AP.out.2.1
        have p3 := AP.out.2.2.1
        have hl3 := @vvNext_len (vvNext xs s) o
        have hl4 := vvJoinOk_le (vvNext xs s) (vvNext xs o)
        go_wp2_with fail
        refine (iVvNext_h Y.out (by unfold maxLen; omega) o).mono ?_
        rintro e w6 ⟨AT, cT, rfl, hb, h_T⟩
        have B6 := Lib.hid (B5.out.trans (hb.mono B5.out.size))
        replace X := Lib.hid (X.out.step hb)
        replace Y := Lib.hid (Y.out.step hb)
        replace Z := Lib.hid (Z.out.step hb)
        have T := Lib.hid h_T
        clear hb h_T
        go_wp2_with fail
        refine (iVvIn_h Y.out Z.out (by unfold maxLen; omega) (by unfold maxLen; omega)).mono ?_
        rintro e w7 ⟨rfl, hb⟩
        have B7 := Lib.hid (B6.out.trans (hb.mono B6.out.size))
        replace X := Lib.hid (X.out.step hb)
        replace Y := Lib.hid (Y.out.step hb)
        replace Z := Lib.hid (Z.out.step hb)
        replace T := Lib.hid (T.out.step hb)
        clear hb
        go_wp2_with fail
        refine (iVvIn_h Z.out Y.out (by unfold maxLen; omega) (by unfold maxLen; omega)).mono ?_
        rintro e w8 ⟨rfl, hb⟩
        have B8 := Lib.hid (B7.out.trans (hb.mono B7.out.size))
        replace X := Lib.hid (X.out.step hb)
        replace Y := Lib.hid (Y.out.step hb)
        replace Z := Lib.hid (Z.out.step hb)
        replace T := Lib.hid (T.out.step hb)
        clear hb
        go_wp2_with fail
        refine (iVvJoin_h Y.out Z.out (by unfold maxLen; omega) (by unfold maxLen; omega)).mono ?_
        rintro e w9 ⟨AJ, cJ, rfl, hb, h_J⟩
        have B9 := Lib.hid (B8.out.trans (hb.mono B8.out.size))
        replace X := Lib.hid (X.out.step hb)
        replace Y := Lib.hid (Y.out.step hb)
        replace Z := Lib.hid (Z.out.step hb)
        replace T := Lib.hid (T.out.step hb)
        have J := Lib.hid h_J
        clear hb h_J
        go_wp2_with fail
        refine (lvInts_h J.out T.out (by unfold maxLen; omega)).mono ?_
        rintro e w10 ⟨rfl, hb⟩
        have B10 := Lib.hid (B9.out.trans (hb.mono B9.out.size))
        replace X := Lib.hid (X.out.step hb)
        replace Y := Lib.hid (Y.out.step hb)
        replace Z := Lib.hid (Z.out.step hb)
        replace T := Lib.hid (T.out.step hb)
        replace J := Lib.hid (J.out.step hb)
        clear hb
        have ej : decide (vvJoinOk (vvNext xs s) (vvNext xs o) = vvNext (vvNext xs s) o) = true := decide_eq_true AP.out.2.2.2
        rw [ej]
        clear ej
        go_wp2
        go_ret
        exact ⟨by simp, B10.out⟩
      · have k2' : nextOk xs o = false := by simpa using k2
        clear k2
        go_wp2
        go_ret
        exact ⟨by simp, B5.out⟩
  · have k1' : nextOk xs s = false := by simpa using k1
    clear k1
    go_wp2_with fail
    refine (lvInts_h Y.out W.out (by unfold maxLen; omega)).mono ?_
    rintro e w4 ⟨rfl, hb⟩
    have B4 := Lib.hid (B3.out.trans (hb.mono B3.out.size))
    replace X := Lib.hid (X.out.step hb)
    replace W := Lib.hid (W.out.step hb)
    replace Y := Lib.hid (Y.out.step hb)
    clear hb
    go_wp2_with fail
    refine (lvInts_h Y.out W.out (by unfold maxLen; omega)).mono ?_
    rintro e w5 ⟨rfl, hb⟩
    have B5 := Lib.hid (B4.out.trans (hb.mono B4.out.size))
    replace X := Lib.hid (X.out.step hb)
    replace W := Lib.hid (W.out.step hb)
    replace Y := Lib.hid (Y.out.step hb)
    clear hb
    go_wp2
    go_ret
    exact ⟨by simp, B5.out⟩

/-! ### THE ROW's STEP: WRITTEN OUT: LEAVE IT -/
set_option maxRecDepth 100000 in
theorem lifted (os : Os) (started : os.Started) (H : Type) (enc : TypeId × Value → H) :
    ReturnsInHanded {} Try.checked os 12 .any (Rows.fnVvApartSpec.pre6 enc Try.prog Try.f12 Rows.fnVvApartRow.domain false) (Rows.fnVvApartSpec.post enc Try.prog Try.f12 false true false false) := by
  refine returnsInHanded_of_change (C := Try.checked) own started (by kernel_rfl) Try.func12
    (ChangeSpec.witness6 (enc := enc) (C := Try.checked) false ⟨#[], #[.slice none 0 0, .slice none 0 0], []⟩ 8 (by kernel_rfl) (by kernel_rfl) (by kernel_rfl) (by kernel_rfl)) ?_
  intro W base args ds gs before hval0 hW hcnd _
  have hval : ∀ (j : Nat) t v, Try.f12.params[j]? = some t → args[j]? = some v → Value.okWide Try.prog W .any base t v := hval0
  have hW' := hW
  obtain ⟨p, q, hA0, hV, rfl, hfz, hnd⟩ := hW
  have hA : DataW.TrodAll enc Try.prog W 0 (fun _ => true) true Try.f12.params.toList args.toList ds p := hA0
  rw [Try.params12] at hA hval
  obtain ⟨v0, vs0, d0, ds0, p0, q0, hargs, rfl, rfl, h0, r0⟩ := trodAll_cons hA
  obtain ⟨v1, vs1, d1, ds1, p1, q1, rfl, rfl, rfl, h1, r1⟩ := trodAll_cons r0
  obtain ⟨rfl, rfl, rfl⟩ := trodAll_nil r1
  obtain rfl : args = #[v0, v1] := by cases args; simp_all
  obtain ⟨rfl, rfl⟩ := trodVars_none hV
  obtain ⟨a0, len0, cap0, rfl⟩ := okWide_slice Try.underlying27 (hval 0 27 v0 rfl rfl)
  have k0 := h0
  have lt0 : ∀ x ∈ p0, x.block < W.heap.size := by obtain ⟨m, hm⟩ := k0; exact DataW.trod_lt m _ _ _ hm
  obtain ⟨z0, w0⟩ : ∃ zs, IsRow .u8 W a0 len0 cap0 zs := by
    obtain ⟨fuel, hf⟩ := h0
    rcases open_ints Try.underlying27 Try.underlying5 (by kernel_rfl) hf with ⟨hcs, _⟩ | ⟨x, l, c, zs, hcs, _, hl, hm, hz, _, hcell, hwz⟩
    · simp [Value.cells] at hcs
      obtain ⟨rfl, rfl, rfl⟩ := hcs
      exact ⟨[], .inl ⟨rfl, rfl, rfl, rfl⟩⟩
    · simp [Value.cells] at hcs
      obtain ⟨rfl, rfl, rfl⟩ := hcs
      exact ⟨zs, .inr ⟨_, rfl, hl, hm, by simpa using hz, hcell, hwz⟩⟩
  obtain ⟨a1, len1, cap1, rfl⟩ := okWide_slice Try.underlying27 (hval 1 27 v1 rfl rfl)
  have k1 := h1
  have lt1 : ∀ x ∈ p1, x.block < W.heap.size := by obtain ⟨m, hm⟩ := k1; exact DataW.trod_lt m _ _ _ hm
  obtain ⟨z1, w1⟩ : ∃ zs, IsRow .u8 W a1 len1 cap1 zs := by
    obtain ⟨fuel, hf⟩ := h1
    rcases open_ints Try.underlying27 Try.underlying5 (by kernel_rfl) hf with ⟨hcs, _⟩ | ⟨x, l, c, zs, hcs, _, hl, hm, hz, _, hcell, hwz⟩
    · simp [Value.cells] at hcs
      obtain ⟨rfl, rfl, rfl⟩ := hcs
      exact ⟨[], .inl ⟨rfl, rfl, rfl, rfl⟩⟩
    · simp [Value.cells] at hcs
      obtain ⟨rfl, rfl, rfl⟩ := hcs
      exact ⟨zs, .inr ⟨_, rfl, hl, hm, by simpa using hz, hcell, hwz⟩⟩
  clear hA0 hval0
  refine (walk a0 len0 cap0 z0 a1 len1 cap1 z1 W w0 w1).mono fun e W' ⟨he, bel⟩ => ?_
  subst he
  exact ⟨_, rfl, _, _, _, [], _, [], hW', trodAll_mk1 (shut_bool Try.underlying4 _), (trodAll_cons_mk (Below.trod laidOut (by kernel_rfl) (of_decide_eq_true (by kernel_rfl)) k0 bel lt0) (trodAll_cons_mk (Below.trod laidOut (by kernel_rfl) (of_decide_eq_true (by kernel_rfl)) k1 bel lt1) trodAll_mk0)), rfl, bel.frame _, fun h => by cases h⟩

theorem over : Rows.fnVvApartRow.holds Try.pinned (OpenSpec.ofChange Rows.fnVvApartSpec) :=
  OpenClaim.holds_of_wide 12 Try.f12 rfl rfl rfl rfl rfl rfl rfl ⟨rfl, rfl, rfl, rfl, rfl⟩ rfl rfl rfl rfl rfl (by kernel_rfl) Try.func12 (by kernel_rfl)
    (of_decide_eq_true (by kernel_rfl)) (by unfold Func.isWrapper; first | (rw [if_pos (by decide +kernel)]; kernel_rfl) | (rw [if_neg (by decide +kernel)]; exact ⟨rfl, rfl⟩))
    (fun os started H enc _ => lifted os started H enc)

/-- ████ THE STATEMENT ████ -/
theorem proved : Rows.FnVvApartSaid := over
#print axioms proved
end Go.Proofs.Ytcpblncbljeccaa.fnVvApart
