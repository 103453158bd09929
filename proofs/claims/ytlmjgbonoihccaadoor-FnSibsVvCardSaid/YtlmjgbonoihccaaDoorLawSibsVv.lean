
/-
  The walk of the law FnSibsVv. (Printed by gen/merge.py.)
-/
import Derived.Test.YtlmjgbonoihccaaDoorMergeK
namespace Go.Proofs.YtlmjgbonoihccaaDoor
open Go.RowKit Go.PlainAid

set_option maxRecDepth 100000 in
set_option linter.unusedSimpArgs false in
set_option maxHeartbeats 3200000 in
theorem FnSibsVv_walk (A A' : Option Addr) (n n' c c' : Nat) (zs zs' : List Int) (w : World) (h : Came w A n c zs) (h' : Came w A' n' c' zs') :
    Calls Tryd.prog 3 #[.slice A n c, .slice A' n' c'] w fun e w' => e = .returned (.bool true) ∧ Below w.heap.size w w' := by
  by_cases big : 1048576 < n
  · go_enter Tryd.func3, Tryd.ntmps3
    go_wp2
    go_ret
    exact ⟨rfl, Below.refl _ _⟩
  by_cases big' : 1048576 < n'
  · go_enter Tryd.func3, Tryd.ntmps3
    go_wp2
    go_ret
    exact ⟨rfl, Below.refl _ _⟩
  have H := Lib.hid h
  have H' := Lib.hid h'
  clear h'
  clear h
  have B0 := Lib.hid (Below.refl w.heap.size w)
  go_enter Tryd.func3, Tryd.ntmps3
  go_wp2_with fail
  refine (DrawSibsVv_any A n c zs _ H.out).mono ?_
  rintro e w1 ⟨gg, c1, ks, rfl, hl, hb, hI⟩
  have B1 := Lib.hid (B0.out.trans (hb.mono B0.out.size))
  replace H := Lib.hid (H.out.step hb)
  replace H' := Lib.hid (H'.out.step hb)
  have KA := Lib.hid hI
  clear hb hI
  clear H
  obtain ⟨N, hN⟩ : ∃ N, ks.length = N := ⟨_, rfl⟩
  rw [hN] at hl KA ⊢
  have LN := Lib.hid hN
  clear hN
  obtain ⟨sa, hsa⟩ : ∃ sa, sbs ks = sa := ⟨_, rfl⟩
  have SA := Lib.hid hsa
  clear hsa
  obtain ⟨ok, hok⟩ : ∃ ok, sibsOk sa = ok := ⟨_, rfl⟩
  have OK := Lib.hid hok
  clear hok
  obtain ⟨vs, hvs⟩ : ∃ vs, vvSibs sa = vs := ⟨_, rfl⟩
  have VS := Lib.hid hvs
  clear hvs
  have VT : Hid (vvSibs (sbs ks) = vs) := Lib.hid (by rw [SA.out]; exact VS.out)
  have hV : vs.length ≤ 3 := by rw [← VS.out]; exact vvSibs_le _
  go_wp2_with fail
  refine (iSibsVv_k (ts := vs) KA.out (by unfold maxLen; omega) VT.out).mono ?_
  rintro e w2 ⟨AV, cV, rfl, hb, hVV⟩
  have B2 := Lib.hid (B1.out.trans (hb.mono B1.out.size))
  replace H' := Lib.hid (H'.out.step hb)
  replace KA := Lib.hid (KA.out.step hb)
  have VV := Lib.hid hVV
  clear hb hVV
  go_wp2_with fail
  refine (sSibsVv_k (ts := vs) KA.out (by unfold maxLen; omega) VT.out).mono ?_
  rintro e w3 ⟨AX, cX, rfl, hb, hXX⟩
  have B3 := Lib.hid (B2.out.trans (hb.mono B2.out.size))
  replace H' := Lib.hid (H'.out.step hb)
  replace KA := Lib.hid (KA.out.step hb)
  replace VV := Lib.hid (VV.out.step hb)
  have XX := Lib.hid hXX
  clear hb hXX
  go_wp2_with fail
  refine (lvInts_e VV.out XX.out (by unfold maxLen; omega) rfl rfl).mono ?_
  rintro e w4 ⟨rfl, hb⟩
  have B4 := Lib.hid (B3.out.trans (hb.mono B3.out.size))
  replace H' := Lib.hid (H'.out.step hb)
  replace KA := Lib.hid (KA.out.step hb)
  replace VV := Lib.hid (VV.out.step hb)
  replace XX := Lib.hid (XX.out.step hb)
  clear hb
  clear XX
  go_wp2_with fail
  refine (sSibsOk_k KA.out (by unfold maxLen; omega) ((congrArg sibsOk SA.out).trans OK.out)).mono ?_
  rintro e w5 ⟨rfl, hb⟩
  have B5 := Lib.hid (B4.out.trans (hb.mono B4.out.size))
  replace H' := Lib.hid (H'.out.step hb)
  replace KA := Lib.hid (KA.out.step hb)
  replace VV := Lib.hid (VV.out.step hb)
  clear hb
  cases ok
  · go_wp2_with fail
    refine (sSibsVv_k (ts := vs) KA.out (by unfold maxLen; omega) VT.out).mono ?_
    rintro e w6 ⟨AX, cX, rfl, hb, hXX⟩
    have B6 := Lib.hid (B5.out.trans (hb.mono B5.out.size))
    replace H' := Lib.hid (H'.out.step hb)
    replace KA := Lib.hid (KA.out.step hb)
    replace VV := Lib.hid (VV.out.step hb)
    have XX := Lib.hid hXX
    clear hb hXX
    go_wp2_with fail
    refine (lvInts_e VV.out XX.out (by unfold maxLen; omega) rfl rfl).mono ?_
    rintro e w7 ⟨rfl, hb⟩
    have B7 := Lib.hid (B6.out.trans (hb.mono B6.out.size))
    replace H' := Lib.hid (H'.out.step hb)
    replace KA := Lib.hid (KA.out.step hb)
    replace VV := Lib.hid (VV.out.step hb)
    replace XX := Lib.hid (XX.out.step hb)
    clear hb
    clear XX
    go_wp2
    go_ret
    exact ⟨rfl, B7.out⟩
  · have JV : Hid (joinAll sa = vs) := Lib.hid ((vvSibs_yes OK.out).symm.trans VS.out)
    have AO := Lib.hid (allOk OK.out)
    have hv3 : vs.length = 3 := by rw [← JV.out]; exact vvOk_len (joinAll_ok AO.out)
    rw [hv3] at VV ⊢
    clear hv3 hV
    have Z0 := Lib.hid (Has.three w5 0 0 0)
    have BZ := Lib.hid (bel_alloc w5 (.cells #[.int .i64 0, .int .i64 0, .int .i64 0] 3))
    go_wp2
    go_loopw [7, 8] (fun v i wr => ∃ (k : Nat) (A2 : Option Addr) (c2 : Nat), k ≤ N ∧ i = .int .i64 k ∧ v = .slice A2 3 c2 ∧ Hid (Below w5.heap.size w5 wr) ∧ Hid (Has wr A2 3 (joinTo sa k))) (fun _ i _ => N - (intOf i).toNat)
    case atStart => exact ⟨0, _, 3, Nat.zero_le _, rfl, rfl, BZ.out, by rw [joinTo_zero]; exact Z0.out⟩
    case round =>
      obtain ⟨k, A2, c2, hk, rfl, rfl, HB, HJ⟩ := hrel
      by_cases hlt : k < N
      · obtain ⟨b', off', A1, n1, d1, vv, g, t, e, hbl, c0, c1', c2', I, hn1, ht1, hx⟩ := KA.out.at_ hlt
        simp only [Option.some.injEq, Addr.mk.injEq, and_true] at e
        obtain ⟨rfl, rfl⟩ := e
        rw [Nat.zero_add] at c0
        have q0 := cell_upC HB.out c0
        have IR := Lib.hid (I.step HB.out)
        have JS : Hid (vvJoinOk (joinTo sa k) vv = joinTo sa (k + 1)) := Lib.hid (join_step AO.out (by rw [← SA.out]; exact sbs_at hx.out))
        have J3 := joinTo_len AO.out (k + 1)
        have i1 : (k : Int) < (N : Int) := by omega
        have i2 : (0 : Int) ≤ (k : Int) := by omega
        clear c0 c1' c2' I
        go_wp2_with fail
        refine (iVvJoin_k HJ.out IR.out (by unfold maxLen; omega) hn1 JS.out).mono ?_
        rintro e wj ⟨A3, c3, rfl, hb, hJ⟩
        rw [J3] at hJ ⊢
        have B3 := Lib.hid (HB.out.trans (hb.mono HB.out.size))
        have JJ := Lib.hid hJ
        clear hb hJ q0 J3
        go_wp2
        go_roundw
        case rel => exact ⟨k + 1, A3, c3, by omega, by go_num, rfl, B3.out, JJ.out⟩
        case measure => simp [intOf]; omega
      · obtain rfl : k = N := by omega
        have JJ : Hid (Has wr A2 3 vs) := Lib.hid (by have := HJ.out; rw [joinTo_all (by rw [← SA.out, sbs_len, LN.out]), JV.out] at this; exact this)
        have B90 := Lib.hid (B5.out.trans (HB.out.mono B5.out.size))
        have hb := HB.out
        replace H' := Lib.hid (H'.out.step hb)
        replace KA := Lib.hid (KA.out.step hb)
        replace VV := Lib.hid (VV.out.step hb)
        clear hb HB HJ BZ Z0
        go_wp2_with fail
        refine (DrawSibsShow_any A' n' c' zs' _ H'.out).mono ?_
        rintro e w91 ⟨g3, c3, ls, rfl, hl2, hb, hJ⟩
        have B91 := Lib.hid (B90.out.trans (hb.mono B90.out.size))
        replace H' := Lib.hid (H'.out.step hb)
        replace KA := Lib.hid (KA.out.step hb)
        replace VV := Lib.hid (VV.out.step hb)
        replace JJ := Lib.hid (JJ.out.step hb)
        have KB := Lib.hid hJ
        clear hb hJ
        clear H'
        obtain ⟨M, hM⟩ : ∃ M, ls.length = M := ⟨_, rfl⟩
        rw [hM] at hl2 KB ⊢
        have LM := Lib.hid hM
        clear hM
        obtain ⟨sb, hsb⟩ : ∃ sb, sbs ls = sb := ⟨_, rfl⟩
        have SB := Lib.hid hsb
        clear hsb
        obtain ⟨om, hom⟩ : ∃ om, mergeOk sa sb = om := ⟨_, rfl⟩
        have OM := Lib.hid hom
        clear hom
        obtain ⟨ts, hts⟩ : ∃ ts, mergeV sa sb = ts := ⟨_, rfl⟩
        have TS := Lib.hid hts
        clear hts
        go_wp2_with fail
        refine (iSibsMerge_e KA.out KB.out (by unfold maxLen; omega) (by unfold maxLen; omega) SA.out SB.out OM.out TS.out).mono ?_
        rintro e w92 ⟨AQ, cQ, lQ, rfl, hb, hQ, hlQ, eQ⟩
        have B92 := Lib.hid (B91.out.trans (hb.mono B91.out.size))
        replace KA := Lib.hid (KA.out.step hb)
        replace VV := Lib.hid (VV.out.step hb)
        replace JJ := Lib.hid (JJ.out.step hb)
        replace KB := Lib.hid (KB.out.step hb)
        have Q := Lib.hid hQ
        have EQ := Lib.hid eQ
        clear hb hQ eQ
        go_wp2_with fail
        refine (lvInts_e JJ.out VV.out (by unfold maxLen; omega) rfl rfl).mono ?_
        rintro e w93 ⟨rfl, hb⟩
        have B93 := Lib.hid (B92.out.trans (hb.mono B92.out.size))
        replace KA := Lib.hid (KA.out.step hb)
        replace VV := Lib.hid (VV.out.step hb)
        replace JJ := Lib.hid (JJ.out.step hb)
        replace KB := Lib.hid (KB.out.step hb)
        replace Q := Lib.hid (Q.out.step hb)
        clear hb
        cases om
        · go_wp2
          go_ret
          exact ⟨rfl, B93.out⟩
        · obtain ⟨us, hus⟩ : ∃ us, vvSibs (sbs ls) = us := ⟨_, rfl⟩
          have US := Lib.hid hus
          clear hus
          obtain ⟨xs, hxs⟩ : ∃ xs, vvJoinOk vs us = xs := ⟨_, rfl⟩
          have XS := Lib.hid hxs
          clear hxs
          have hus : us.length ≤ 3 := by rw [← US.out]; exact vvSibs_le _
          have hxs : xs.length ≤ 3 := by rw [← XS.out]; exact vvJoinOk_le _ _
          have VQ : Hid (vvSibs (sbs lQ) = xs) := Lib.hid (by rw [EQ.out, ← TS.out, mergeV_yes OM.out, vv_merge OM.out, VS.out, ← SB.out, US.out, XS.out])
          go_wp2_with fail
          refine (iSibsVv_k (ts := xs) Q.out (by unfold maxLen; omega) VQ.out).mono ?_
          rintro e w94 ⟨AY, cY, rfl, hb, hY⟩
          have B94 := Lib.hid (B93.out.trans (hb.mono B93.out.size))
          replace KA := Lib.hid (KA.out.step hb)
          replace VV := Lib.hid (VV.out.step hb)
          replace JJ := Lib.hid (JJ.out.step hb)
          replace KB := Lib.hid (KB.out.step hb)
          replace Q := Lib.hid (Q.out.step hb)
          have Y := Lib.hid hY
          clear hb hY
          go_wp2_with fail
          refine (iSibsVv_k (ts := us) KB.out (by unfold maxLen; omega) US.out).mono ?_
          rintro e w95 ⟨AU, cU, rfl, hb, hU⟩
          have B95 := Lib.hid (B94.out.trans (hb.mono B94.out.size))
          replace KA := Lib.hid (KA.out.step hb)
          replace VV := Lib.hid (VV.out.step hb)
          replace JJ := Lib.hid (JJ.out.step hb)
          replace KB := Lib.hid (KB.out.step hb)
          replace Q := Lib.hid (Q.out.step hb)
          replace Y := Lib.hid (Y.out.step hb)
          have U := Lib.hid hU
          clear hb hU
          go_wp2_with fail
          refine (iVvJoin_k VV.out U.out (by unfold maxLen; omega) (by unfold maxLen; omega) XS.out).mono ?_
          rintro e w96 ⟨AZ, cZ, rfl, hb, hZ⟩
          have B96 := Lib.hid (B95.out.trans (hb.mono B95.out.size))
          replace KA := Lib.hid (KA.out.step hb)
          replace VV := Lib.hid (VV.out.step hb)
          replace JJ := Lib.hid (JJ.out.step hb)
          replace KB := Lib.hid (KB.out.step hb)
          replace Q := Lib.hid (Q.out.step hb)
          replace Y := Lib.hid (Y.out.step hb)
          replace U := Lib.hid (U.out.step hb)
          have Z := Lib.hid hZ
          clear hb hZ
          go_wp2_with fail
          refine (lvInts_e Y.out Z.out (by unfold maxLen; omega) rfl rfl).mono ?_
          rintro e w97 ⟨rfl, hb⟩
          have B97 := Lib.hid (B96.out.trans (hb.mono B96.out.size))
          replace KA := Lib.hid (KA.out.step hb)
          replace VV := Lib.hid (VV.out.step hb)
          replace JJ := Lib.hid (JJ.out.step hb)
          replace KB := Lib.hid (KB.out.step hb)
          replace Q := Lib.hid (Q.out.step hb)
          replace Y := Lib.hid (Y.out.step hb)
          replace U := Lib.hid (U.out.step hb)
          replace Z := Lib.hid (Z.out.step hb)
          clear hb
          go_wp2
          go_ret
          exact ⟨rfl, B97.out⟩

end Go.Proofs.YtlmjgbonoihccaaDoor
