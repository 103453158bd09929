/-
  Proved: for every input the call of FnVvIn returns true and what came in reads as before. No condition.
-/
import Derived.Test.YtcpblncbljeccaaLawKit2
import Derived.Test.YtcpblncbljeccaaRows
import Derived.WalkKit
import Derived.ProofKit
import Derived.OpenShut
import Derived.ShutString
import Derived.ChangeOld
import Derived.Below
namespace Go.Proofs.Ytcpblncbljeccaa.fnVvIn
open Go.ChangeShapes Go.WideShapes Go.ChangeAt Go.RowKit
open Go.ChangeMaps (open_string shut_string)
set_option linter.unusedVariables false

theorem own : ownKnob Try.prog.godebug = none := by kernel_rfl
theorem laidOut : laidOutB Try.prog = true := by kernel_rfl

/-- WHAT THE WALK IS TOLD OF A SLICE OF INTEGERS THAT CAME IN: it is nil; or it leads to a row of 'cap' cells, the numbers 'zs' (the first 'len' are its elements, the rest its spare room), each fitting its kind. -/
def IsRow (k : IntKind) (w : World) (a : Option Addr) (len cap : Nat) (zs : List Int) : Prop :=
  (a = none ∧ len = 0 ∧ cap = 0 ∧ zs = []) ∨
  ∃ x, a = some x ∧ len ≤ cap ∧ cap ≤ maxLen ∧ zs.length = cap ∧ (∀ i, i < zs.length → w.cell? (x.add i) = some (.int k (zs.getD i 0))) ∧ ∀ n ∈ zs, (Lit.int k n).wf = true

/-! ### STEP 1: THE WALK: the Go text returns true, AND WRITES NOTHING THAT WAS THERE: 'Below w.heap.size w w'' (Derived/Below.lean: '.refl', '.alloc', '.drew', '.setCell' at a new block, '.trans'). Open each 'IsRow' by 'rcases' AHEAD of 'go_enter'; part every test ahead of the walk. -/
theorem walk (a0 : Option Addr) (len0 cap0 : Nat) (z0 : List Int) (w : World) (w0 : IsRow .u8 w a0 len0 cap0 z0) :
    Calls Try.prog 10 #[.slice a0 len0 cap0] w fun e w' => e = .returned (.bool true) ∧ Below w.heap.size w w' := by
  by_cases big_len0 : 1048576 < len0
  · go_enter Try.func10, Try.ntmps10
    go_wp2
    go_ret
    exact ⟨rfl, Below.refl _ _⟩
  have B0 := Lib.hid (Below.refl w.heap.size w)
  have C0 := Lib.hid (show Came w a0 len0 cap0 z0 from w0)
  clear w0
  go_enter Try.func10, Try.ntmps10
  go_wp2_with fail
  refine (DrawVvIn_h C0.out).mono ?_
  rintro e w1 ⟨A1, n1, c1, xs, A2, n2, c2, ys, rfl, hn1, hn2, hb, h_X, h_Y⟩
  have B1 := Lib.hid (B0.out.trans (hb.mono B0.out.size))
  replace C0 := Lib.hid (C0.out.step hb)
  have X := Lib.hid h_X
  have Y := Lib.hid h_Y
  clear hb h_X h_Y
  go_wp2_with fail
  refine (iVvIn_h X.out Y.out (by unfold maxLen; omega) (by unfold maxLen; omega)).mono ?_
  rintro e w2 ⟨rfl, hb⟩
  have B2 := Lib.hid (B1.out.trans (hb.mono B1.out.size))
  replace X := Lib.hid (X.out.step hb)
  replace Y := Lib.hid (Y.out.step hb)
  clear hb
  go_wp2_with fail
  refine (sVvIn_h X.out Y.out (by unfold maxLen; omega) (by unfold maxLen; omega)).mono ?_
  rintro e w3 ⟨rfl, hb⟩
  have B3 := Lib.hid (B2.out.trans (hb.mono B2.out.size))
  replace X := Lib.hid (X.out.step hb)
  replace Y := Lib.hid (Y.out.step hb)
  clear hb
  by_cases k1 : vvOk xs = true
  · skip
    go_wp2_with fail
    refine (sVvOk_h X.out (by unfold maxLen; omega)).mono ?_
    rintro e w4 ⟨rfl, hb⟩
    have B4 := Lib.hid (B3.out.trans (hb.mono B3.out.size))
    replace X := Lib.hid (X.out.step hb)
    replace Y := Lib.hid (Y.out.step hb)
    clear hb
    by_cases k2 : vvOk ys = true
    · skip
      go_wp2_with fail
      refine (sVvOk_h Y.out (by unfold maxLen; omega)).mono ?_
      rintro e w5 ⟨rfl, hb⟩
      have B5 := Lib.hid (B4.out.trans (hb.mono B4.out.size))
      replace X := Lib.hid (X.out.step hb)
      replace Y := Lib.hid (Y.out.step hb)
      clear hb
      have N3 := Lib.hid (X.out.len.symm.trans (vvOk_len k1))
      have M3 := Lib.hid (Y.out.len.symm.trans (vvOk_len k2))
      have LL := Lib.hid ((vvOk_len k1).trans (vvOk_len k2).symm)
      have IB := Lib.hid (in_both k1 k2)
      have IS := Lib.hid (in_self k1)
      have NE := Lib.hid (@in_ne xs ys k1)
      have IE := Lib.hid (inOk_yes k1 k2)
      go_wp2
      go_loopw [6, 7] (fun b i wr => ∃ (k : Nat) (p : Bool), k ≤ n1 ∧ i = .int .i64 k ∧ b = .bool p ∧ Hid (p = true ↔ ∀ j, j < k → xs.getD j 0 ≤ ys.getD j 0) ∧ Hid (Below w5.heap.size w5 wr)) (fun _ i _ => n1 - (intOf i).toNat)
      case atStart => exact ⟨0, true, Nat.zero_le _, rfl, rfl, ⟨fun _ j hj => absurd hj (by omega), fun _ => rfl⟩, Below.refl _ _⟩
      case round =>
        obtain ⟨k, p, hk, rfl, rfl, HP, HB⟩ := hrel
        by_cases hlt : k < n1
        · obtain ⟨b, off, x, hA, _, hbh, hc, hx⟩ := Ints.at_ X.out hlt
          obtain ⟨b', off', y, hA', _, hbh', hd, hy⟩ := Ints.at_ Y.out (k := k) (by have := N3.out; have := M3.out; omega)
          subst hA
          subst hA'
          have hc' : wr.cell? ⟨b, off + k, none⟩ = some (.int .i64 x) := (HB.out.cell (p := ⟨b, off + k, none⟩) hbh).trans hc
          have hd' : wr.cell? ⟨b', off' + k, none⟩ = some (.int .i64 y) := (HB.out.cell (p := ⟨b', off' + k, none⟩) hbh').trans hd
          have i1 : (k : Int) < (n1 : Int) := by omega
          have i2 : (k : Int) < (n2 : Int) := by have := N3.out; have := M3.out; omega
          have i3 : (0 : Int) ≤ (k : Int) := Int.natCast_nonneg _
          clear hc hd
          cases p
          · go_wp2
            go_quiet (fail)
            go_wp2
            go_roundw
            case rel =>
              refine ⟨k + 1, false, by omega, by go_num, rfl, ⟨(fun h => by cases h), fun h => ?_⟩, bel_drewN HB.out _⟩
              exact absurd (HP.out.2 fun j hj => h j (by omega)) (by simp)
            case measure => simp [intOf]; omega
          · go_wp2
            go_quiet (fail)
            go_wp2
            go_roundw
            case rel =>
              refine ⟨k + 1, decide (x ≤ y), by omega, by go_num, rfl, ?_, bel_drewN HB.out _⟩
              have hp := HP.out.1 (by simp)
              have hx' := hx.out
              have hy' := hy.out
              show decide (x ≤ y) = true ↔ _
              rw [decide_eq_true_iff]
              constructor
              · intro h j hj
                by_cases e : j = k
                · subst e; rw [hx', hy']; exact h
                · exact hp j (by omega)
              · intro h
                have := h k (by omega)
                rw [hx', hy'] at this
                exact this
            case measure => simp [intOf]; omega
        · have hpe : p = vvInOk xs ys := by
            rw [IE.out, Bool.eq_iff_iff, HP.out, vvIn_iff LL.out, X.out.len]
            obtain rfl : k = n1 := by omega
            exact Iff.rfl
          subst hpe
          have hb := HB.out
          have B6 := Lib.hid (B5.out.trans (hb.mono B5.out.size))
          replace X := Lib.hid (X.out.step hb)
          replace Y := Lib.hid (Y.out.step hb)
          clear hb HB HP
          by_cases m1 : vvInOk xs ys = true
          · skip
            have e2 := IB.out m1
            have E2 := Lib.hid e2
            clear e2
            go_wp2_with fail
            refine (iVvIn_h Y.out X.out (by unfold maxLen; omega) (by unfold maxLen; omega)).mono ?_
            rintro e v1 ⟨rfl, hb⟩
            rw [E2.out]
            have D1 := Lib.hid (B6.out.trans (hb.mono B6.out.size))
            replace X := Lib.hid (X.out.step hb)
            replace Y := Lib.hid (Y.out.step hb)
            clear hb
            go_wp2_with fail
            refine (lvInts_h X.out Y.out (by unfold maxLen; omega)).mono ?_
            rintro e v2 ⟨rfl, hb⟩
            have D2 := Lib.hid (D1.out.trans (hb.mono D1.out.size))
            replace X := Lib.hid (X.out.step hb)
            clear hb
            have e3 := IS.out
            go_wp2_with fail
            refine (iVvIn_h X.out X.out (by unfold maxLen; omega) (by unfold maxLen; omega)).mono ?_
            rintro e v3 ⟨rfl, hb⟩
            have D3 := Lib.hid (D2.out.trans (hb.mono D2.out.size))
            clear hb
            go_wp2
            go_ret
            exact ⟨by simp, D3.out⟩
          · have m1' : vvInOk xs ys = false := by simpa using m1
            clear m1
            go_wp2_with fail
            refine (lvInts_h X.out Y.out (by unfold maxLen; omega)).mono ?_
            rintro e v2 ⟨rfl, hb⟩
            rw [NE.out m1']
            have D2 := Lib.hid (B6.out.trans (hb.mono B6.out.size))
            replace X := Lib.hid (X.out.step hb)
            clear hb
            have e3 := IS.out
            go_wp2_with fail
            refine (iVvIn_h X.out X.out (by unfold maxLen; omega) (by unfold maxLen; omega)).mono ?_
            rintro e v3 ⟨rfl, hb⟩
            have D3 := Lib.hid (D2.out.trans (hb.mono D2.out.size))
            clear hb
            go_wp2
            go_ret
            exact ⟨by simp, D3.out⟩
    · have k2' : vvOk ys = false := by simpa using k2
      clear k2
      go_wp2_with fail
      refine (sVvOk_h Y.out (by unfold maxLen; omega)).mono ?_
      rintro e w5 ⟨rfl, hb⟩
      have B5 := Lib.hid (B4.out.trans (hb.mono B4.out.size))
      replace X := Lib.hid (X.out.step hb)
      replace Y := Lib.hid (Y.out.step hb)
      clear hb
      go_wp2_with fail
      refine (sVvIn_h X.out Y.out (by unfold maxLen; omega) (by unfold maxLen; omega)).mono ?_
      rintro e w6 ⟨rfl, hb⟩
      have B6 := Lib.hid (B5.out.trans (hb.mono B5.out.size))
      replace X := Lib.hid (X.out.step hb)
      replace Y := Lib.hid (Y.out.step hb)
      clear hb
      go_wp2
      go_ret
      exact ⟨by simp, B6.out⟩
  · have k1' : vvOk xs = false := by simpa using k1
    clear k1
    go_wp2_with fail
    refine (sVvOk_h X.out (by unfold maxLen; omega)).mono ?_
    rintro e w4 ⟨rfl, hb⟩
    have B4 := Lib.hid (B3.out.trans (hb.mono B3.out.size))
    replace X := Lib.hid (X.out.step hb)
    replace Y := Lib.hid (Y.out.step hb)
    clear hb
    go_wp2_with fail
    refine (sVvIn_h X.out Y.out (by unfold maxLen; omega) (by unfold maxLen; omega)).mono ?_
    rintro e w5 ⟨rfl, hb⟩
    have B5 := Lib.hid (B4.out.trans (hb.mono B4.out.size))
    replace X := Lib.hid (X.out.step hb)
    replace Y := Lib.hid (Y.out.step hb)
    clear hb
    go_wp2
    go_ret
    exact ⟨by simp, B5.out⟩

/-! ### THE ROW's STEP: WRITTEN OUT: LEAVE IT -/
set_option maxRecDepth 100000 in
theorem lifted (os : Os) (started : os.Started) (H : Type) (enc : TypeId × Value → H) :
    ReturnsInHanded {} Try.checked os 10 .any (Rows.fnVvInSpec.pre6 enc Try.prog Try.f10 Rows.fnVvInRow.domain false) (Rows.fnVvInSpec.post enc Try.prog Try.f10 false true false false) := by
  refine returnsInHanded_of_change (C := Try.checked) own started (by kernel_rfl) Try.func10
    (ChangeSpec.witness6 (enc := enc) (C := Try.checked) false ⟨#[], #[.slice none 0 0], []⟩ 8 (by kernel_rfl) (by kernel_rfl) (by kernel_rfl) (by kernel_rfl)) ?_
  intro W base args ds gs before hval0 hW hcnd _
  have hval : ∀ (j : Nat) t v, Try.f10.params[j]? = some t → args[j]? = some v → Value.okWide Try.prog W .any base t v := hval0
  have hW' := hW
  obtain ⟨p, q, hA0, hV, rfl, hfz, hnd⟩ := hW
  have hA : DataW.TrodAll enc Try.prog W 0 (fun _ => true) true Try.f10.params.toList args.toList ds p := hA0
  rw [Try.params10] at hA hval
  obtain ⟨v0, vs0, d0, ds0, p0, q0, hargs, rfl, rfl, h0, r0⟩ := trodAll_cons hA
  obtain ⟨rfl, rfl, rfl⟩ := trodAll_nil r0
  obtain rfl : args = #[v0] := by cases args; simp_all
  obtain ⟨rfl, rfl⟩ := trodVars_none hV
  obtain ⟨a0, len0, cap0, rfl⟩ := okWide_slice Try.underlying27 (hval 0 27 v0 rfl rfl)
  have k0 := h0
  have lt0 : ∀ x ∈ p0, x.block < W.heap.size := by obtain ⟨m, hm⟩ := k0; exact DataW.trod_lt m _ _ _ hm
  obtain ⟨z0, w0⟩ : ∃ zs, IsRow .u8 W a0 len0 cap0 zs := by
    obtain ⟨fuel, hf⟩ := h0
    rcases open_ints Try.underlying27 Try.underlying5 (by kernel_rfl) hf with ⟨hcs, _⟩ | ⟨x, l, c, zs, hcs, _, hl, hm, hz, _, hcell, hwz⟩
    · simp [Value.cells] at hcs
      obtain ⟨rfl, rfl, rfl⟩ := hcs
      exact ⟨[], .inl ⟨rfl, rfl, rfl, rfl⟩⟩
    · simp [Value.cells] at hcs
      obtain ⟨rfl, rfl, rfl⟩ := hcs
      exact ⟨zs, .inr ⟨_, rfl, hl, hm, by simpa using hz, hcell, hwz⟩⟩
  clear hA0 hval0
  refine (walk a0 len0 cap0 z0 W w0).mono fun e W' ⟨he, bel⟩ => ?_
  subst he
  exact ⟨_, rfl, _, _, _, [], _, [], hW', trodAll_mk1 (shut_bool Try.underlying4 _), (trodAll_cons_mk (Below.trod laidOut (by kernel_rfl) (of_decide_eq_true (by kernel_rfl)) k0 bel lt0) trodAll_mk0), rfl, bel.frame _, fun h => by cases h⟩

theorem over : Rows.fnVvInRow.holds Try.pinned (OpenSpec.ofChange Rows.fnVvInSpec) :=
  OpenClaim.holds_of_wide 10 Try.f10 rfl rfl rfl rfl rfl rfl rfl ⟨rfl, rfl, rfl, rfl, rfl⟩ rfl rfl rfl rfl rfl (by kernel_rfl) Try.func10 (by kernel_rfl)
    (of_decide_eq_true (by kernel_rfl)) (by unfold Func.isWrapper; first | (rw [if_pos (by decide +kernel)]; kernel_rfl) | (rw [if_neg (by decide +kernel)]; exact ⟨rfl, rfl⟩))
    (fun os started H enc _ => lifted os started H enc)

/-- ████ THE STATEMENT ████ -/
theorem proved : Rows.FnVvInSaid := over
#print axioms proved
end Go.Proofs.Ytcpblncbljeccaa.fnVvIn
