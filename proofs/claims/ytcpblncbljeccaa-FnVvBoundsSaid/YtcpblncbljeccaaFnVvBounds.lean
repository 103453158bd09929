/-
  Proved: for every input the call of FnVvBounds returns true and what came in reads as before. No condition.
-/
import Derived.Test.YtcpblncbljeccaaLawKit2
import Derived.Test.YtcpblncbljeccaaDrawD
import Derived.Test.YtcpblncbljeccaaRows
import Derived.WalkKit
import Derived.ProofKit
import Derived.OpenShut
import Derived.ShutString
import Derived.ChangeOld
import Derived.Below
namespace Go.Proofs.Ytcpblncbljeccaa.fnVvBounds
open Go.ChangeShapes Go.WideShapes Go.ChangeAt Go.RowKit
open Go.ChangeMaps (open_string shut_string)
set_option linter.unusedVariables false

theorem own : ownKnob Try.prog.godebug = none := by kernel_rfl
theorem laidOut : laidOutB Try.prog = true := by kernel_rfl

/-- WHAT THE WALK IS TOLD OF A SLICE OF INTEGERS THAT CAME IN: it is nil; or it leads to a row of 'cap' cells, the numbers 'zs' (the first 'len' are its elements, the rest its spare room), each fitting its kind. -/
def IsRow (k : IntKind) (w : World) (a : Option Addr) (len cap : Nat) (zs : List Int) : Prop :=
  (a = none ∧ len = 0 ∧ cap = 0 ∧ zs = []) ∨
  ∃ x, a = some x ∧ len ≤ cap ∧ cap ≤ maxLen ∧ zs.length = cap ∧ (∀ i, i < zs.length → w.cell? (x.add i) = some (.int k (zs.getD i 0))) ∧ ∀ n ∈ zs, (Lit.int k n).wf = true

/-! ### STEP 1: THE WALK: the Go text returns true, AND WRITES NOTHING THAT WAS THERE: 'Below w.heap.size w w'' (Derived/Below.lean: '.refl', '.alloc', '.drew', '.setCell' at a new block, '.trans'). Open each 'IsRow' by 'rcases' AHEAD of 'go_enter'; part every test ahead of the walk. -/
theorem walk (a0 : Option Addr) (len0 cap0 : Nat) (z0 : List Int) (a1 : Option Addr) (len1 cap1 : Nat) (z1 : List Int) (w : World) (w0 : IsRow .u8 w a0 len0 cap0 z0) (w1 : IsRow .u8 w a1 len1 cap1 z1) :
    Calls Try.prog 5 #[.slice a0 len0 cap0, .slice a1 len1 cap1] w fun e w' => e = .returned (.bool true) ∧ Below w.heap.size w w' := by
  by_cases big_len0 : 1048576 < len0
  · go_enter Try.func5, Try.ntmps5
    go_wp2
    go_ret
    exact ⟨rfl, Below.refl _ _⟩
  by_cases big_len1 : 1048576 < len1
  · go_enter Try.func5, Try.ntmps5
    go_wp2
    go_ret
    exact ⟨rfl, Below.refl _ _⟩
  obtain ⟨i0, hi0, hz0, hz1, hz2⟩ := info_parts infoInt
  have Z2 := Lib.hid hz2
  clear hz2
  have B0 := Lib.hid (Below.refl w.heap.size w)
  have C0 := Lib.hid (show Came w a0 len0 cap0 z0 from w0)
  clear w0 w1
  go_enter Try.func5, Try.ntmps5
  go_wp2_with fail
  refine (DrawVvOk_any _ _ _ _ _ C0.out).mono ?_
  rintro e w1 ⟨A1, n1, c1, xs, rfl, hn1, hnc, hb, h_V⟩
  have B1 := Lib.hid (B0.out.trans (hb.mono B0.out.size))
  have s1 := hb.size
  clear hb
  have V := Lib.hid h_V
  clear h_V
  go_wp2_with fail
  refine (iVvOk_any _ _ _ _ _ _ _ V.out (by unfold maxLen; omega)).mono ?_
  rintro e w2 ⟨rfl, hw⟩
  have hb := bel_of_eq hw
  have B2 := Lib.hid (B1.out.trans (hb.mono B1.out.size))
  have s2 := hb.size
  replace V := Lib.hid (V.out.below hb (by omega))
  clear hb hw
  go_wp2_with fail
  refine (sVvOk_any _ _ _ _ _ _ _ V.out (by unfold maxLen; omega)).mono ?_
  rintro e w3 ⟨rfl, hw⟩
  have hb := bel_of_eq hw
  have B3 := Lib.hid (B2.out.trans (hb.mono B2.out.size))
  have s3 := hb.size
  replace V := Lib.hid (V.out.below hb (by omega))
  clear hb hw
  by_cases k1 : vvOk xs = true
  · skip
    have n3 := V.out.len.symm.trans (vvOk_len k1)
    subst n3
    obtain ⟨k, hk⟩ : ∃ k, k = len1 % 3 := ⟨_, rfl⟩
    have hk3 : k < 3 := by omega
    have ke : ((len1 : Int) % 3) = (k : Int) := by omega
    have KE := Lib.hid hk
    clear hk
    obtain ⟨b, off, hA, hb1, hb2, hcell⟩ := V.out.2 (by omega)
    subst hA
    clear hcell
    have N1 := Lib.hid (vvOk_bad (v := xs.set k (-1)) (k := k) (by rw [List.length_set, V.out.len]; omega) (.inl (by rw [List.getD_eq_getElem?_getD, List.getElem?_set_self (by rw [V.out.len]; omega)]; simp)))
    have N2 := Lib.hid (vvOk_bad (v := xs.set k 31) (k := k) (by rw [List.length_set, V.out.len]; omega) (.inr (by rw [List.getD_eq_getElem?_getD, List.getElem?_set_self (by rw [V.out.len]; omega)]; simp)))
    have N3 := Lib.hid (vvOk_len_ne (v := xs.drop 1) (by rw [List.length_drop, V.out.len]; omega))
    have N4 := Lib.hid (vvOk_len_ne (v := xs ++ [0]) (by rw [List.length_append, V.out.len]; simp))
    go_upto_region 10 with (at_builtin; refine wpList_append_lies _ (by rfl) (.tmp 37) (.tmp 38) 23 (by rfl) w3.heap.size 3 i0 (.int .i64 0) 1 8 Try.underlying23 hi0 hz0 hz1 Z2.out rfl (by decide) _ 0 [] (by rfl) (emptyInts w3) ⟨b, off, none⟩ 3 c1 (xs.map (Value.int .i64)) (by rfl) (by rw [List.length_map, V.out.len]) (Row.news (Row.below V.out ((Below.refl w3.heap.size w3).alloc (Nat.le_refl _) _) (by omega))) (oneInts xs) (by omega) (by unfold maxLen; omega) (by omega) (by simp) (w3.heap.size + 1) (by simp) ?_; intro g3 cap3 w4 hown hgrow hat hlt
                            have hO : OwnInts w4 w3.heap.size w4.heap.size (some ⟨g3, 0, none⟩) 3 cap3 xs := OwnInts.of (by simpa using hown) (Nat.le_refl _)
                            have hb : Below w3.heap.size w3 w4 := ((Below.refl w3.heap.size w3).alloc (Nat.le_refl _) _).grown hgrow (by simp) (fun g hg => ((emptyInts w3).lt g hg).1)
                            have B4 := Lib.hid (B3.out.trans (hb.mono B3.out.size))
                            have s4 := hb.size
                            replace V := Lib.hid (V.out.below hb (by omega))
                            have hg3 := hlt
                            have hcell := own_cell hO hk3
                            obtain ⟨u, hu⟩ : ∃ u, u = xs.getD k 0 := ⟨_, rfl⟩
                            rw [← hu] at hcell
                            have hfree := own_free hO k
                            have Ox := Lib.hid hO
                            clear hO hu
                            clear hown hgrow hat hlt hb)
    clear hcell hfree
    obtain ⟨w5, hw5⟩ : ∃ x, x = w4.setCell ⟨g3, k, none⟩ (.int .i64 (-1)) := ⟨_, rfl⟩
    have hO := own_set Ox.out k (-1)
    have hI := (Inside.refl w3.heap.size w4.heap.size w4).setCell (p := ⟨g3, k, none⟩) (by have := Ox.out.head (by omega); obtain ⟨g', hg', h1, _⟩ := this; simp at hg'; show w3.heap.size ≤ g3; omega) (by show g3 < w4.heap.size; omega) (.int .i64 (-1))
    rw [← hw5] at hO hI
    have B5 := Lib.hid (B4.out.trans (hI.below (by omega)))
    have s5 := (hI.below (B := 0) (Nat.zero_le _)).size
    replace V := Lib.hid (V.out.keep (hI.keep (by omega)))
    replace Ox := Lib.hid hO
    rw [← hw5]
    clear hw5 hO hI
    go_upto_region 12 with (at_builtin; refine wpList_append_lies _ (by rfl) (.tmp 43) (.tmp 44) 23 (by rfl) w5.heap.size 3 i0 (.int .i64 0) 1 8 Try.underlying23 hi0 hz0 hz1 Z2.out rfl (by decide) _ 0 [] (by rfl) (emptyInts w5) ⟨b, off, none⟩ 3 c1 (xs.map (Value.int .i64)) (by rfl) (by rw [List.length_map, V.out.len]) (Row.news (Row.below V.out ((Below.refl w5.heap.size w5).alloc (Nat.le_refl _) _) (by omega))) (oneInts xs) (by omega) (by unfold maxLen; omega) (by omega) (by simp) (w5.heap.size + 1) (by simp) ?_; intro g5 cap5 w6 hown hgrow hat hlt
                            have hO : OwnInts w6 w5.heap.size w6.heap.size (some ⟨g5, 0, none⟩) 3 cap5 xs := OwnInts.of (by simpa using hown) (Nat.le_refl _)
                            have hb : Below w5.heap.size w5 w6 := ((Below.refl w5.heap.size w5).alloc (Nat.le_refl _) _).grown hgrow (by simp) (fun g hg => ((emptyInts w5).lt g hg).1)
                            have B6 := Lib.hid (B5.out.trans (hb.mono B5.out.size))
                            have s6 := hb.size
                            replace V := Lib.hid (V.out.below hb (by omega))
                            replace Ox := Lib.hid (Ox.out.below hb (by omega))
                            have hg5 := hlt
                            have hcell := own_cell hO hk3
                            obtain ⟨u, hu⟩ : ∃ u, u = xs.getD k 0 := ⟨_, rfl⟩
                            rw [← hu] at hcell
                            have hfree := own_free hO k
                            have Oy := Lib.hid hO
                            clear hO hu
                            clear hown hgrow hat hlt hb)
    clear hcell hfree
    obtain ⟨w7, hw7⟩ : ∃ x, x = w6.setCell ⟨g5, k, none⟩ (.int .i64 (31)) := ⟨_, rfl⟩
    have hO := own_set Oy.out k (31)
    have hI := (Inside.refl w5.heap.size w6.heap.size w6).setCell (p := ⟨g5, k, none⟩) (by have := Oy.out.head (by omega); obtain ⟨g', hg', h1, _⟩ := this; simp at hg'; show w5.heap.size ≤ g5; omega) (by show g5 < w6.heap.size; omega) (.int .i64 (31))
    rw [← hw7] at hO hI
    have B7 := Lib.hid (B6.out.trans (hI.below (by omega)))
    have s7 := (hI.below (B := 0) (Nat.zero_le _)).size
    replace V := Lib.hid (V.out.keep (hI.keep (by omega)))
    replace Ox := Lib.hid (Ox.out.keep (hI.keep (by omega)))
    replace Oy := Lib.hid hO
    rw [← hw7]
    clear hw7 hO hI
    have n1 := N1.out
    go_wp2_with fail
    refine (iVvOk_any _ _ _ _ _ _ _ Ox.out.ints (by unfold maxLen; omega)).mono ?_
    rintro e w8 ⟨rfl, hw⟩
    have hb := bel_of_eq hw
    have B8 := Lib.hid (B7.out.trans (hb.mono B7.out.size))
    have s8 := hb.size
    replace V := Lib.hid (V.out.below hb (by omega))
    replace Ox := Lib.hid (Ox.out.below hb (by omega))
    replace Oy := Lib.hid (Oy.out.below hb (by omega))
    clear hb hw
    have n2 := N2.out
    go_wp2_with fail
    refine (iVvOk_any _ _ _ _ _ _ _ Oy.out.ints (by unfold maxLen; omega)).mono ?_
    rintro e w9 ⟨rfl, hw⟩
    have hb := bel_of_eq hw
    have B9 := Lib.hid (B8.out.trans (hb.mono B8.out.size))
    have s9 := hb.size
    replace V := Lib.hid (V.out.below hb (by omega))
    replace Ox := Lib.hid (Ox.out.below hb (by omega))
    replace Oy := Lib.hid (Oy.out.below hb (by omega))
    clear hb hw
    have n4 : vvOk xs.tail = false := by have := N3.out; rwa [List.drop_one] at this
    have i1 : (1 : Int) ≤ 3 := by omega
    have i3 : (3 : Int) ≤ (c1 : Int) := by omega
    go_wp2_with fail
    refine (iVvOk_any _ _ _ _ _ _ _ (ints_tail V.out) (by unfold maxLen; omega)).mono ?_
    rintro e w10 ⟨rfl, hw⟩
    have hb := bel_of_eq hw
    have B10 := Lib.hid (B9.out.trans (hb.mono B9.out.size))
    have s10 := hb.size
    replace V := Lib.hid (V.out.below hb (by omega))
    replace Ox := Lib.hid (Ox.out.below hb (by omega))
    replace Oy := Lib.hid (Oy.out.below hb (by omega))
    clear hb hw
    have n5 := N4.out
    go_wp2_with (first
      | (at_builtin; refine append_guarded _ (by rfl) (.tmp 64) (.tmp 65) 23 (by rfl) w10.heap.size 3 i0 (.int .i64 0) 1 8 Try.underlying23 hi0 hz0 hz1 Z2.out rfl (by decide) _ 0 [] (by rfl) (emptyInts w10) ⟨b, off, none⟩ 3 c1 (xs.map (Value.int .i64)) (by rfl) (by rw [List.length_map, V.out.len]) (Row.news (Row.below V.out ((Below.refl w10.heap.size w10).alloc (Nat.le_refl _) _) (by omega))) (oneInts xs) (by omega) (by unfold maxLen; omega) (by omega) (by simp) (w10.heap.size + 1) (by simp) ?_; intro gA capA wA hownA hgrowA hatA hltA
         have hOA : wA.ownsRow w10.heap.size 3 1 (.slice (some ⟨gA, 0, none⟩) 3 capA) 3 (xs.map (Value.int .i64)) := by simpa using hownA
         have OA := Lib.hid hOA
         have hbA : Below w10.heap.size w10 wA := ((Below.refl w10.heap.size w10).alloc (Nat.le_refl _) _).grown hgrowA (by simp) (fun g hg => ((emptyInts w10).lt g hg).1)
         have BA := Lib.hid hbA
         clear hownA hgrowA hatA hltA hOA hbA)
      | (at_builtin; refine append_guarded _ (by rfl) (.tmp 66) (.tmp 67) 23 (by rfl) w10.heap.size 3 i0 (.int .i64 0) 1 8 Try.underlying23 hi0 hz0 hz1 Z2.out rfl (by decide) _ 3 (xs.map (Value.int .i64)) (by rfl) (OA.out.alloc _) ⟨wA.heap.size, 0, none⟩ 1 1 [.int .i64 0] (by rfl) (by rfl) (cell_one_new _ _ _) (oneInts [0]) (by omega) (by unfold maxLen; omega) (by omega) (by have := BA.out.size; simp; omega) (wA.heap.size + 1) (by simp) ?_; intro gC capC wC hownC hgrowC hatC hltC
         have hOC : OwnInts wC w10.heap.size wC.heap.size (some ⟨gC, 0, none⟩) 4 capC (xs ++ [0]) := OwnInts.of (by simpa using hownC) (Nat.le_refl _)
         have OC := Lib.hid hOC
         have hbC : Below w10.heap.size wA wC := ((Below.refl w10.heap.size wA).alloc BA.out.size _).grown hgrowC (by have := BA.out.size; simp; omega) (fun g hg => (OA.out.lt g hg).1)
         have BC := Lib.hid (BA.out.trans hbC)
         clear hownC hgrowC hatC hltC hOC hbC))
    have hb := BC.out
    have B11 := Lib.hid (B10.out.trans (hb.mono B10.out.size))
    clear hb
    refine (iVvOk_any _ _ _ _ _ _ _ OC.out.ints (by unfold maxLen; omega)).mono ?_
    rintro e wD ⟨rfl, rfl⟩
    go_wp2
    go_ret
    exact ⟨by simp, B11.out⟩
  · have k1' : vvOk xs = false := by simpa using k1
    clear k1
    go_wp2_with fail
    refine (sVvOk_any _ _ _ _ _ _ _ V.out (by unfold maxLen; omega)).mono ?_
    rintro e w4 ⟨rfl, hw⟩
    have hb := bel_of_eq hw
    have B4 := Lib.hid (B3.out.trans (hb.mono B3.out.size))
    have s4 := hb.size
    replace V := Lib.hid (V.out.below hb (by omega))
    clear hb hw
    go_wp2
    go_ret
    exact ⟨by simp, B4.out⟩

/-! ### THE ROW's STEP: WRITTEN OUT: LEAVE IT -/
set_option maxRecDepth 100000 in
theorem lifted (os : Os) (started : os.Started) (H : Type) (enc : TypeId × Value → H) :
    ReturnsInHanded {} Try.checked os 5 .any (Rows.fnVvBoundsSpec.pre6 enc Try.prog Try.f5 Rows.fnVvBoundsRow.domain false) (Rows.fnVvBoundsSpec.post enc Try.prog Try.f5 false true false false) := by
  refine returnsInHanded_of_change (C := Try.checked) own started (by kernel_rfl) Try.func5
    (ChangeSpec.witness6 (enc := enc) (C := Try.checked) false ⟨#[], #[.slice none 0 0, .slice none 0 0], []⟩ 8 (by kernel_rfl) (by kernel_rfl) (by kernel_rfl) (by kernel_rfl)) ?_
  intro W base args ds gs before hval0 hW hcnd _
  have hval : ∀ (j : Nat) t v, Try.f5.params[j]? = some t → args[j]? = some v → Value.okWide Try.prog W .any base t v := hval0
  have hW' := hW
  obtain ⟨p, q, hA0, hV, rfl, hfz, hnd⟩ := hW
  have hA : DataW.TrodAll enc Try.prog W 0 (fun _ => true) true Try.f5.params.toList args.toList ds p := hA0
  rw [Try.params5] at hA hval
  obtain ⟨v0, vs0, d0, ds0, p0, q0, hargs, rfl, rfl, h0, r0⟩ := trodAll_cons hA
  obtain ⟨v1, vs1, d1, ds1, p1, q1, rfl, rfl, rfl, h1, r1⟩ := trodAll_cons r0
  obtain ⟨rfl, rfl, rfl⟩ := trodAll_nil r1
  obtain rfl : args = #[v0, v1] := by cases args; simp_all
  obtain ⟨rfl, rfl⟩ := trodVars_none hV
  obtain ⟨a0, len0, cap0, rfl⟩ := okWide_slice Try.underlying27 (hval 0 27 v0 rfl rfl)
  have k0 := h0
  have lt0 : ∀ x ∈ p0, x.block < W.heap.size := by obtain ⟨m, hm⟩ := k0; exact DataW.trod_lt m _ _ _ hm
  obtain ⟨z0, w0⟩ : ∃ zs, IsRow .u8 W a0 len0 cap0 zs := by
    obtain ⟨fuel, hf⟩ := h0
    rcases open_ints Try.underlying27 Try.underlying5 (by kernel_rfl) hf with ⟨hcs, _⟩ | ⟨x, l, c, zs, hcs, _, hl, hm, hz, _, hcell, hwz⟩
    · simp [Value.cells] at hcs
      obtain ⟨rfl, rfl, rfl⟩ := hcs
      exact ⟨[], .inl ⟨rfl, rfl, rfl, rfl⟩⟩
    · simp [Value.cells] at hcs
      obtain ⟨rfl, rfl, rfl⟩ := hcs
      exact ⟨zs, .inr ⟨_, rfl, hl, hm, by simpa using hz, hcell, hwz⟩⟩
  obtain ⟨a1, len1, cap1, rfl⟩ := okWide_slice Try.underlying27 (hval 1 27 v1 rfl rfl)
  have k1 := h1
  have lt1 : ∀ x ∈ p1, x.block < W.heap.size := by obtain ⟨m, hm⟩ := k1; exact DataW.trod_lt m _ _ _ hm
  obtain ⟨z1, w1⟩ : ∃ zs, IsRow .u8 W a1 len1 cap1 zs := by
    obtain ⟨fuel, hf⟩ := h1
    rcases open_ints Try.underlying27 Try.underlying5 (by kernel_rfl) hf with ⟨hcs, _⟩ | ⟨x, l, c, zs, hcs, _, hl, hm, hz, _, hcell, hwz⟩
    · simp [Value.cells] at hcs
      obtain ⟨rfl, rfl, rfl⟩ := hcs
      exact ⟨[], .inl ⟨rfl, rfl, rfl, rfl⟩⟩
    · simp [Value.cells] at hcs
      obtain ⟨rfl, rfl, rfl⟩ := hcs
      exact ⟨zs, .inr ⟨_, rfl, hl, hm, by simpa using hz, hcell, hwz⟩⟩
  clear hA0 hval0
  refine (walk a0 len0 cap0 z0 a1 len1 cap1 z1 W w0 w1).mono fun e W' ⟨he, bel⟩ => ?_
  subst he
  exact ⟨_, rfl, _, _, _, [], _, [], hW', trodAll_mk1 (shut_bool Try.underlying4 _), (trodAll_cons_mk (Below.trod laidOut (by kernel_rfl) (of_decide_eq_true (by kernel_rfl)) k0 bel lt0) (trodAll_cons_mk (Below.trod laidOut (by kernel_rfl) (of_decide_eq_true (by kernel_rfl)) k1 bel lt1) trodAll_mk0)), rfl, bel.frame _, fun h => by cases h⟩

theorem over : Rows.fnVvBoundsRow.holds Try.pinned (OpenSpec.ofChange Rows.fnVvBoundsSpec) :=
  OpenClaim.holds_of_wide 5 Try.f5 rfl rfl rfl rfl rfl rfl rfl ⟨rfl, rfl, rfl, rfl, rfl⟩ rfl rfl rfl rfl rfl (by kernel_rfl) Try.func5 (by kernel_rfl)
    (of_decide_eq_true (by kernel_rfl)) (by unfold Func.isWrapper; first | (rw [if_pos (by decide +kernel)]; kernel_rfl) | (rw [if_neg (by decide +kernel)]; exact ⟨rfl, rfl⟩))
    (fun os started H enc _ => lifted os started H enc)

/-- ████ THE STATEMENT ████ -/
theorem proved : Rows.FnVvBoundsSaid := over
#print axioms proved
end Go.Proofs.Ytcpblncbljeccaa.fnVvBounds
