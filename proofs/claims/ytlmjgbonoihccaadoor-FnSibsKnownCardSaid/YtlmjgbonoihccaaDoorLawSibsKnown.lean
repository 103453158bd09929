
/-
  The walk of the law FnSibsKnown. (Printed by gen/merge.py.)
-/
import Derived.Test.YtlmjgbonoihccaaDoorMergeK
namespace Go.Proofs.YtlmjgbonoihccaaDoor
open Go.RowKit Go.PlainAid

set_option maxRecDepth 100000 in
set_option linter.unusedSimpArgs false in
set_option maxHeartbeats 3200000 in
theorem FnSibsKnown_walk (A A' : Option Addr) (n n' c c' : Nat) (zs zs' : List Int) (w : World) (h : Came w A n c zs) (h' : Came w A' n' c' zs') :
    Calls Tryd.prog 4 #[.slice A n c, .slice A' n' c'] w fun e w' => e = .returned (.bool true) ∧ Below w.heap.size w w' := by
  by_cases big : 1048576 < n
  · go_enter Tryd.func4, Tryd.ntmps4
    go_wp2
    go_ret
    exact ⟨rfl, Below.refl _ _⟩
  by_cases big' : 1048576 < n'
  · go_enter Tryd.func4, Tryd.ntmps4
    go_wp2
    go_ret
    exact ⟨rfl, Below.refl _ _⟩
  have H := Lib.hid h
  have H' := Lib.hid h'
  clear h'
  clear h
  have B0 := Lib.hid (Below.refl w.heap.size w)
  go_enter Tryd.func4, Tryd.ntmps4
  go_wp2_with fail
  refine (DrawSibsVv_any A n c zs _ H.out).mono ?_
  rintro e w1 ⟨gg, c1, ks, rfl, hl, hb, hI⟩
  have B1 := Lib.hid (B0.out.trans (hb.mono B0.out.size))
  replace H := Lib.hid (H.out.step hb)
  replace H' := Lib.hid (H'.out.step hb)
  have KA := Lib.hid hI
  clear hb hI
  clear H
  obtain ⟨N, hN⟩ : ∃ N, ks.length = N := ⟨_, rfl⟩
  rw [hN] at hl KA ⊢
  have LN := Lib.hid hN
  clear hN
  obtain ⟨sa, hsa⟩ : ∃ sa, sbs ks = sa := ⟨_, rfl⟩
  have SA := Lib.hid hsa
  clear hsa
  obtain ⟨ok, hok⟩ : ∃ ok, sibsOk sa = ok := ⟨_, rfl⟩
  have OK := Lib.hid hok
  clear hok
  obtain ⟨vs, hvs⟩ : ∃ vs, vvSibs sa = vs := ⟨_, rfl⟩
  have VS := Lib.hid hvs
  clear hvs
  have VT : Hid (vvSibs (sbs ks) = vs) := Lib.hid (by rw [SA.out]; exact VS.out)
  have hV : vs.length ≤ 3 := by rw [← VS.out]; exact vvSibs_le _
  go_wp2_with fail
  refine (iSibsVv_k (ts := vs) KA.out (by unfold maxLen; omega) VT.out).mono ?_
  rintro e w2 ⟨AV, cV, rfl, hb, hVV⟩
  have B2 := Lib.hid (B1.out.trans (hb.mono B1.out.size))
  replace H' := Lib.hid (H'.out.step hb)
  replace KA := Lib.hid (KA.out.step hb)
  have VV := Lib.hid hVV
  clear hb hVV
  go_wp2_with fail
  refine (sSibsVv_k (ts := vs) KA.out (by unfold maxLen; omega) VT.out).mono ?_
  rintro e w3 ⟨AX, cX, rfl, hb, hXX⟩
  have B3 := Lib.hid (B2.out.trans (hb.mono B2.out.size))
  replace H' := Lib.hid (H'.out.step hb)
  replace KA := Lib.hid (KA.out.step hb)
  replace VV := Lib.hid (VV.out.step hb)
  have XX := Lib.hid hXX
  clear hb hXX
  go_wp2_with fail
  refine (lvInts_e VV.out XX.out (by unfold maxLen; omega) rfl rfl).mono ?_
  rintro e w4 ⟨rfl, hb⟩
  have B4 := Lib.hid (B3.out.trans (hb.mono B3.out.size))
  replace H' := Lib.hid (H'.out.step hb)
  replace KA := Lib.hid (KA.out.step hb)
  replace VV := Lib.hid (VV.out.step hb)
  replace XX := Lib.hid (XX.out.step hb)
  clear hb
  clear XX
  go_wp2_with fail
  refine (sSibsOk_k KA.out (by unfold maxLen; omega) ((congrArg sibsOk SA.out).trans OK.out)).mono ?_
  rintro e w5 ⟨rfl, hb⟩
  have B5 := Lib.hid (B4.out.trans (hb.mono B4.out.size))
  replace H' := Lib.hid (H'.out.step hb)
  replace KA := Lib.hid (KA.out.step hb)
  replace VV := Lib.hid (VV.out.step hb)
  clear hb
  cases ok
  · go_wp2_with fail
    refine (sSibsVv_k (ts := vs) KA.out (by unfold maxLen; omega) VT.out).mono ?_
    rintro e w6 ⟨AX, cX, rfl, hb, hXX⟩
    have B6 := Lib.hid (B5.out.trans (hb.mono B5.out.size))
    replace H' := Lib.hid (H'.out.step hb)
    replace KA := Lib.hid (KA.out.step hb)
    replace VV := Lib.hid (VV.out.step hb)
    have XX := Lib.hid hXX
    clear hb hXX
    go_wp2_with fail
    refine (lvInts_e VV.out XX.out (by unfold maxLen; omega) rfl rfl).mono ?_
    rintro e w7 ⟨rfl, hb⟩
    have B7 := Lib.hid (B6.out.trans (hb.mono B6.out.size))
    replace H' := Lib.hid (H'.out.step hb)
    replace KA := Lib.hid (KA.out.step hb)
    replace VV := Lib.hid (VV.out.step hb)
    replace XX := Lib.hid (XX.out.step hb)
    clear hb
    clear XX
    go_wp2
    go_ret
    exact ⟨rfl, B7.out⟩
  · clear H'
    have JV : Hid (vs = joinAll sa) := Lib.hid (VS.out.symm.trans (vvSibs_yes OK.out))
    obtain ⟨q, hq, hqN⟩ : ∃ q : Nat, Int.tmod (n' : Int) 3 = (q : Int) ∧ q < 3 := ⟨n' % 3, by rw [Int.tmod_eq_emod_of_nonneg (by omega)]; rfl, Nat.mod_lt _ (by omega)⟩
    have j9 : IntKind.i64.wrap (1 + (q : Int)) = 1 + (q : Int) := IntWalk.i64_in _ (by omega)
    obtain ⟨nx, hnx⟩ : ∃ nx, nextOk vs (1 + (q : Int)) = nx := ⟨_, rfl⟩
    have NX := Lib.hid hnx
    clear hnx
    obtain ⟨ws, hws⟩ : ∃ ws, vvNext vs (1 + (q : Int)) = ws := ⟨_, rfl⟩
    have WS := Lib.hid hws
    clear hws
    have hW : ws.length ≤ 3 := by rw [← WS.out]; exact vvNext_len
    go_wp2_with fail
    refine (iVvNext_k VV.out (by unfold maxLen; omega) (1 + (q : Int)) NX.out WS.out).mono ?_
    rintro e w6 ⟨AW, cW, rfl, hb, hWW⟩
    have B6 := Lib.hid (B5.out.trans (hb.mono B5.out.size))
    replace KA := Lib.hid (KA.out.step hb)
    replace VV := Lib.hid (VV.out.step hb)
    have WW := Lib.hid hWW
    clear hb hWW
    cases nx
    · go_wp2
      go_ret
      exact ⟨rfl, B6.out⟩
    · have MX : Hid (mergeOk sa [⟨ws, false, ⟨#[97, 98]⟩⟩] = true ∧ mergeV sa [⟨ws, false, ⟨#[97, 98]⟩⟩] = [⟨ws, false, ⟨#[97, 98]⟩⟩]) := Lib.hid (by
        rw [← WS.out, JV.out]
        exact merge_next OK.out (by rw [← JV.out]; exact NX.out) (by decide))
      have hb := bel_alloc w6 (.cells #[.slice AW ws.length cW, .bool false, .string ⟨#[97, 98]⟩] 31)
      have OX := Lib.hid (one_new (c := cW) (g := false) (t := ⟨#[97, 98]⟩) WW.out (by unfold maxLen; omega) (by decide))
      have BX := Lib.hid (B6.out.trans (hb.mono B6.out.size))
      replace KA := Lib.hid (KA.out.step hb)
      replace VV := Lib.hid (VV.out.step hb)
      replace WW := Lib.hid (WW.out.step hb)
      clear hb
      go_wp2_with fail
      refine (iSibsMerge_e KA.out OX.out (by unfold maxLen; omega) (by unfold maxLen; omega) SA.out rfl MX.out.1 MX.out.2).mono ?_
      rintro e wM ⟨AM, cM, lM, rfl, hb, hM, hlM, eM⟩
      have BM := Lib.hid (BX.out.trans (hb.mono BX.out.size))
      replace KA := Lib.hid (KA.out.step hb)
      replace VV := Lib.hid (VV.out.step hb)
      replace WW := Lib.hid (WW.out.step hb)
      replace OX := Lib.hid (OX.out.step hb)
      have MM := Lib.hid hM
      have EM := Lib.hid eM
      clear hb hM eM
      go_wp2_with fail
      refine (lvSibs_e MM.out OX.out (by unfold maxLen; omega) EM.out rfl).mono ?_
      rintro e wN ⟨rfl, hb⟩
      have BN := Lib.hid (BM.out.trans (hb.mono BM.out.size))
      clear hb
      go_wp2
      go_ret
      exact ⟨rfl, BN.out⟩

end Go.Proofs.YtlmjgbonoihccaaDoor
