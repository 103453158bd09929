
/-
  The walk of the law FnSibsThree. (Printed by gen/merge.py.)
-/
import Derived.Test.YtlmjgbonoihccaaDoorMergeK
namespace Go.Proofs.YtlmjgbonoihccaaDoor
open Go.RowKit Go.PlainAid

set_option maxRecDepth 100000 in
set_option linter.unusedSimpArgs false in
set_option maxHeartbeats 3200000 in
theorem FnSibsThree_walk (A A' : Option Addr) (n n' c c' : Nat) (zs zs' : List Int) (w : World) (h : Came w A n c zs) (h' : Came w A' n' c' zs') :
    Calls Tryd.prog 12 #[.slice A n c, .slice A' n' c'] w fun e w' => e = .returned (.bool true) ∧ Below w.heap.size w w' := by
  by_cases big : 1048576 < n
  · go_enter Tryd.func12, Tryd.ntmps12
    go_wp2
    go_ret
    exact ⟨rfl, Below.refl _ _⟩
  by_cases big' : 1048576 < n'
  · go_enter Tryd.func12, Tryd.ntmps12
    go_wp2
    go_ret
    exact ⟨rfl, Below.refl _ _⟩
  have H := Lib.hid h
  have H' := Lib.hid h'
  clear h'
  clear h
  have B0 := Lib.hid (Below.refl w.heap.size w)
  go_enter Tryd.func12, Tryd.ntmps12
  go_wp2_with fail
  refine (DrawSibsMerge_any A n c zs _ H.out).mono ?_
  rintro e w1 ⟨g1, c1, ks, g2, c2, ls, rfl, hk, hl, hb, hI, hJ⟩
  have B1 := Lib.hid (B0.out.trans (hb.mono B0.out.size))
  replace H := Lib.hid (H.out.step hb)
  replace H' := Lib.hid (H'.out.step hb)
  have KA := Lib.hid hI
  have KB := Lib.hid hJ
  clear hb hI hJ
  clear H
  obtain ⟨N, hN⟩ : ∃ N, ks.length = N := ⟨_, rfl⟩
  rw [hN] at hk KA ⊢
  have LN := Lib.hid hN
  clear hN
  obtain ⟨M, hM⟩ : ∃ M, ls.length = M := ⟨_, rfl⟩
  rw [hM] at hl KB ⊢
  have LM := Lib.hid hM
  clear hM
  obtain ⟨sa, hsa⟩ : ∃ sa, sbs ks = sa := ⟨_, rfl⟩
  have SA := Lib.hid hsa
  clear hsa
  obtain ⟨sb, hsb⟩ : ∃ sb, sbs ls = sb := ⟨_, rfl⟩
  have SB := Lib.hid hsb
  clear hsb
  obtain ⟨ok, hok⟩ : ∃ ok, mergeOk sa sb = ok := ⟨_, rfl⟩
  have OK := Lib.hid hok
  clear hok
  obtain ⟨ts, hts⟩ : ∃ ts, mergeV sa sb = ts := ⟨_, rfl⟩
  have TS := Lib.hid hts
  clear hts
  go_wp2_with fail
  refine (sSibsMerge_e KA.out KB.out (by unfold maxLen; omega) (by unfold maxLen; omega) SA.out SB.out OK.out TS.out).mono ?_
  rintro e w2 ⟨AW, cW, lW, rfl, hb, hW, hlW, eW⟩
  have B2 := Lib.hid (B1.out.trans (hb.mono B1.out.size))
  replace H' := Lib.hid (H'.out.step hb)
  replace KA := Lib.hid (KA.out.step hb)
  replace KB := Lib.hid (KB.out.step hb)
  have W := Lib.hid hW
  have EW := Lib.hid eW
  clear hb hW eW
  go_wp2_with fail
  refine (iSibsMerge_e KA.out KB.out (by unfold maxLen; omega) (by unfold maxLen; omega) SA.out SB.out OK.out TS.out).mono ?_
  rintro e w3 ⟨AM, cM, lM, rfl, hb, hM, hlM, eM⟩
  have B3 := Lib.hid (B2.out.trans (hb.mono B2.out.size))
  replace H' := Lib.hid (H'.out.step hb)
  replace KA := Lib.hid (KA.out.step hb)
  replace KB := Lib.hid (KB.out.step hb)
  replace W := Lib.hid (W.out.step hb)
  have MM := Lib.hid hM
  have EM := Lib.hid eM
  clear hb hM eM
  cases ok
  · go_wp2_with fail
    refine (lvSibs_e MM.out W.out (by unfold maxLen; omega) EM.out EW.out).mono ?_
    rintro e w4 ⟨rfl, hb⟩
    have B4 := Lib.hid (B3.out.trans (hb.mono B3.out.size))
    replace H' := Lib.hid (H'.out.step hb)
    replace KA := Lib.hid (KA.out.step hb)
    replace KB := Lib.hid (KB.out.step hb)
    replace W := Lib.hid (W.out.step hb)
    replace MM := Lib.hid (MM.out.step hb)
    clear hb
    go_wp2_with fail
    refine (lvSibs_e MM.out W.out (by unfold maxLen; omega) EM.out EW.out).mono ?_
    rintro e w5 ⟨rfl, hb⟩
    have B5 := Lib.hid (B4.out.trans (hb.mono B4.out.size))
    replace H' := Lib.hid (H'.out.step hb)
    replace KA := Lib.hid (KA.out.step hb)
    replace KB := Lib.hid (KB.out.step hb)
    replace W := Lib.hid (W.out.step hb)
    replace MM := Lib.hid (MM.out.step hb)
    clear hb
    go_wp2
    go_ret
    exact ⟨rfl, B5.out⟩
  · have MV : Hid (mergeL sa sb = ts) := Lib.hid ((mergeV_yes OK.out).symm.trans TS.out)
    go_wp2_with fail
    refine (lvSibs_e MM.out W.out (by unfold maxLen; omega) EM.out EW.out).mono ?_
    rintro e w4 ⟨rfl, hb⟩
    have B4 := Lib.hid (B3.out.trans (hb.mono B3.out.size))
    replace H' := Lib.hid (H'.out.step hb)
    replace KA := Lib.hid (KA.out.step hb)
    replace KB := Lib.hid (KB.out.step hb)
    replace W := Lib.hid (W.out.step hb)
    replace MM := Lib.hid (MM.out.step hb)
    clear hb
    clear W
    clear EW
    go_wp2_with fail
    refine (DrawSibsVv_any A' n' c' zs' _ H'.out).mono ?_
    rintro e w5 ⟨g3, c3, lc, rfl, hc, hb, hC⟩
    have B5 := Lib.hid (B4.out.trans (hb.mono B4.out.size))
    replace H' := Lib.hid (H'.out.step hb)
    replace KA := Lib.hid (KA.out.step hb)
    replace KB := Lib.hid (KB.out.step hb)
    replace MM := Lib.hid (MM.out.step hb)
    have KC := Lib.hid hC
    clear hb hC
    clear H'
    obtain ⟨P, hP⟩ : ∃ P, lc.length = P := ⟨_, rfl⟩
    rw [hP] at hc KC ⊢
    have LP := Lib.hid hP
    clear hP
    obtain ⟨sc, hsc⟩ : ∃ sc, sbs lc = sc := ⟨_, rfl⟩
    have SC := Lib.hid hsc
    clear hsc
    obtain ⟨oc, hoc⟩ : ∃ oc, sibsOk sc = oc := ⟨_, rfl⟩
    have OC := Lib.hid hoc
    clear hoc
    go_wp2_with fail
    refine (iSibsOk_any _ P c3 lc _ KC.out (by unfold maxLen; omega)).mono ?_
    rintro e w6 ⟨rfl, hb⟩
    rw [SC.out, OC.out]
    have B6 := Lib.hid (B5.out.trans (hb.mono B5.out.size))
    replace KA := Lib.hid (KA.out.step hb)
    replace KB := Lib.hid (KB.out.step hb)
    replace MM := Lib.hid (MM.out.step hb)
    replace KC := Lib.hid (KC.out.step hb)
    clear hb
    cases oc
    · go_wp2
      go_ret
      exact ⟨rfl, B6.out⟩
    · by_cases hs : N + M + P ≤ 12
      · have i1 : ¬ (12 : Int) < (N : Int) + (M : Int) + (P : Int) := by omega
        have MT := Lib.hid (merge_three OK.out OC.out (by rw [← SA.out, ← SB.out, ← SC.out, sbs_len, sbs_len, sbs_len, LN.out, LM.out, LP.out]; exact hs))
        have EM2 : Hid (sbs lM = mergeL sa sb) := Lib.hid (EM.out.trans MV.out.symm)
        go_wp2_with fail
        refine (iSibsMerge_e MM.out KC.out (by unfold maxLen; omega) (by unfold maxLen; omega) EM2.out SC.out MT.out.1.1 MT.out.1.2).mono ?_
        rintro e w7 ⟨AX, cX, lX, rfl, hb, hX, hlX, eX⟩
        have B7 := Lib.hid (B6.out.trans (hb.mono B6.out.size))
        replace KA := Lib.hid (KA.out.step hb)
        replace KB := Lib.hid (KB.out.step hb)
        replace MM := Lib.hid (MM.out.step hb)
        replace KC := Lib.hid (KC.out.step hb)
        have X := Lib.hid hX
        have EX := Lib.hid eX
        clear hb hX eX
        go_wp2_with fail
        refine (iSibsMerge_e KB.out KC.out (by unfold maxLen; omega) (by unfold maxLen; omega) SB.out SC.out MT.out.2.1.1 MT.out.2.1.2).mono ?_
        rintro e w8 ⟨AY, cY, lY, rfl, hb, hY, hlY, eY⟩
        have B8 := Lib.hid (B7.out.trans (hb.mono B7.out.size))
        replace KA := Lib.hid (KA.out.step hb)
        replace KB := Lib.hid (KB.out.step hb)
        replace MM := Lib.hid (MM.out.step hb)
        replace KC := Lib.hid (KC.out.step hb)
        replace X := Lib.hid (X.out.step hb)
        have Y := Lib.hid hY
        have EY := Lib.hid eY
        clear hb hY eY
        go_wp2_with fail
        refine (iSibsMerge_e KA.out Y.out (by unfold maxLen; omega) (by unfold maxLen; omega) SA.out EY.out MT.out.2.2.1 MT.out.2.2.2).mono ?_
        rintro e w9 ⟨AZ, cZ, lZ, rfl, hb, hZ, hlZ, eZ⟩
        have B9 := Lib.hid (B8.out.trans (hb.mono B8.out.size))
        replace KA := Lib.hid (KA.out.step hb)
        replace KB := Lib.hid (KB.out.step hb)
        replace MM := Lib.hid (MM.out.step hb)
        replace KC := Lib.hid (KC.out.step hb)
        replace X := Lib.hid (X.out.step hb)
        replace Y := Lib.hid (Y.out.step hb)
        have Z := Lib.hid hZ
        have EZ := Lib.hid eZ
        clear hb hZ eZ
        go_wp2_with fail
        refine (lvSibs_e Z.out X.out (by unfold maxLen; omega) EZ.out EX.out).mono ?_
        rintro e w10 ⟨rfl, hb⟩
        have B10 := Lib.hid (B9.out.trans (hb.mono B9.out.size))
        replace KA := Lib.hid (KA.out.step hb)
        replace KB := Lib.hid (KB.out.step hb)
        replace MM := Lib.hid (MM.out.step hb)
        replace KC := Lib.hid (KC.out.step hb)
        replace X := Lib.hid (X.out.step hb)
        replace Y := Lib.hid (Y.out.step hb)
        replace Z := Lib.hid (Z.out.step hb)
        clear hb
        go_wp2
        go_ret
        exact ⟨rfl, B10.out⟩
      · have i1 : (12 : Int) < (N : Int) + (M : Int) + (P : Int) := by omega
        go_wp2
        go_ret
        exact ⟨rfl, B6.out⟩

end Go.Proofs.YtlmjgbonoihccaaDoor
