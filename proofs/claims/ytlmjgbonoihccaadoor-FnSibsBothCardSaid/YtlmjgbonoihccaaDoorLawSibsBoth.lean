
/-
  The walk of the law FnSibsBoth. (Printed by gen/merge.py.)
-/
import Derived.Test.YtlmjgbonoihccaaDoorMergeK
namespace Go.Proofs.YtlmjgbonoihccaaDoor
open Go.RowKit Go.PlainAid

set_option maxRecDepth 100000 in
set_option linter.unusedSimpArgs false in
set_option maxHeartbeats 3200000 in
theorem FnSibsBoth_walk (A : Option Addr) (n c : Nat) (zs : List Int) (w : World) (h : Came w A n c zs) :
    Calls Tryd.prog 11 #[.slice A n c] w fun e w' => e = .returned (.bool true) ∧ Below w.heap.size w w' := by
  by_cases big : 1048576 < n
  · go_enter Tryd.func11, Tryd.ntmps11
    go_wp2
    go_ret
    exact ⟨rfl, Below.refl _ _⟩
  have H := Lib.hid h
  clear h
  have B0 := Lib.hid (Below.refl w.heap.size w)
  go_enter Tryd.func11, Tryd.ntmps11
  go_wp2_with fail
  refine (DrawSibsMerge_any A n c zs _ H.out).mono ?_
  rintro e w1 ⟨g1, c1, ks, g2, c2, ls, rfl, hk, hl, hb, hI, hJ⟩
  have B1 := Lib.hid (B0.out.trans (hb.mono B0.out.size))
  replace H := Lib.hid (H.out.step hb)
  have KA := Lib.hid hI
  have KB := Lib.hid hJ
  clear hb hI hJ
  clear H
  obtain ⟨N, hN⟩ : ∃ N, ks.length = N := ⟨_, rfl⟩
  rw [hN] at hk KA ⊢
  have LN := Lib.hid hN
  clear hN
  obtain ⟨M, hM⟩ : ∃ M, ls.length = M := ⟨_, rfl⟩
  rw [hM] at hl KB ⊢
  have LM := Lib.hid hM
  clear hM
  obtain ⟨sa, hsa⟩ : ∃ sa, sbs ks = sa := ⟨_, rfl⟩
  have SA := Lib.hid hsa
  clear hsa
  obtain ⟨sb, hsb⟩ : ∃ sb, sbs ls = sb := ⟨_, rfl⟩
  have SB := Lib.hid hsb
  clear hsb
  obtain ⟨ok, hok⟩ : ∃ ok, mergeOk sa sb = ok := ⟨_, rfl⟩
  have OK := Lib.hid hok
  clear hok
  obtain ⟨ts, hts⟩ : ∃ ts, mergeV sa sb = ts := ⟨_, rfl⟩
  have TS := Lib.hid hts
  clear hts
  go_wp2_with fail
  refine (sSibsMerge_e KA.out KB.out (by unfold maxLen; omega) (by unfold maxLen; omega) SA.out SB.out OK.out TS.out).mono ?_
  rintro e w2 ⟨AW, cW, lW, rfl, hb, hW, hlW, eW⟩
  have B2 := Lib.hid (B1.out.trans (hb.mono B1.out.size))
  replace KA := Lib.hid (KA.out.step hb)
  replace KB := Lib.hid (KB.out.step hb)
  have W := Lib.hid hW
  have EW := Lib.hid eW
  clear hb hW eW
  go_wp2_with fail
  refine (iSibsMerge_e KA.out KB.out (by unfold maxLen; omega) (by unfold maxLen; omega) SA.out SB.out OK.out TS.out).mono ?_
  rintro e w3 ⟨AM, cM, lM, rfl, hb, hM, hlM, eM⟩
  have B3 := Lib.hid (B2.out.trans (hb.mono B2.out.size))
  replace KA := Lib.hid (KA.out.step hb)
  replace KB := Lib.hid (KB.out.step hb)
  replace W := Lib.hid (W.out.step hb)
  have MM := Lib.hid hM
  have EM := Lib.hid eM
  clear hb hM eM
  cases ok
  · go_wp2_with fail
    refine (lvSibs_e MM.out W.out (by unfold maxLen; omega) EM.out EW.out).mono ?_
    rintro e w4 ⟨rfl, hb⟩
    have B4 := Lib.hid (B3.out.trans (hb.mono B3.out.size))
    replace KA := Lib.hid (KA.out.step hb)
    replace KB := Lib.hid (KB.out.step hb)
    replace W := Lib.hid (W.out.step hb)
    replace MM := Lib.hid (MM.out.step hb)
    clear hb
    go_wp2_with fail
    refine (lvSibs_e MM.out W.out (by unfold maxLen; omega) EM.out EW.out).mono ?_
    rintro e w5 ⟨rfl, hb⟩
    have B5 := Lib.hid (B4.out.trans (hb.mono B4.out.size))
    replace KA := Lib.hid (KA.out.step hb)
    replace KB := Lib.hid (KB.out.step hb)
    replace W := Lib.hid (W.out.step hb)
    replace MM := Lib.hid (MM.out.step hb)
    clear hb
    go_wp2
    go_ret
    exact ⟨rfl, B5.out⟩
  · have MV : Hid (mergeL sa sb = ts) := Lib.hid ((mergeV_yes OK.out).symm.trans TS.out)
    go_wp2_with fail
    refine (lvSibs_e MM.out W.out (by unfold maxLen; omega) EM.out EW.out).mono ?_
    rintro e w4 ⟨rfl, hb⟩
    have B4 := Lib.hid (B3.out.trans (hb.mono B3.out.size))
    replace KA := Lib.hid (KA.out.step hb)
    replace KB := Lib.hid (KB.out.step hb)
    replace W := Lib.hid (W.out.step hb)
    replace MM := Lib.hid (MM.out.step hb)
    clear hb
    clear W
    clear EW
    go_wp2_with fail
    refine (iSibsMerge_e KB.out KA.out (by unfold maxLen; omega) (by unfold maxLen; omega) SB.out SA.out (merge_swap OK.out).1 ((merge_swap OK.out).2.trans MV.out)).mono ?_
    rintro e w5 ⟨AQ, cQ, lQ, rfl, hb, hQ, hlQ, eQ⟩
    have B5 := Lib.hid (B4.out.trans (hb.mono B4.out.size))
    replace KA := Lib.hid (KA.out.step hb)
    replace KB := Lib.hid (KB.out.step hb)
    replace MM := Lib.hid (MM.out.step hb)
    have Q := Lib.hid hQ
    have EQ := Lib.hid eQ
    clear hb hQ eQ
    go_wp2_with fail
    refine (iSibsMerge_e KA.out KA.out (by unfold maxLen; omega) (by unfold maxLen; omega) SA.out SA.out (merge_in (mergeOk_iff.1 OK.out).1 (mergeOk_iff.1 OK.out).1 (fun _ h => h)).1 (merge_in (mergeOk_iff.1 OK.out).1 (mergeOk_iff.1 OK.out).1 (fun _ h => h)).2).mono ?_
    rintro e w6 ⟨AR, cR, lR, rfl, hb, hR, hlR, eR⟩
    have B6 := Lib.hid (B5.out.trans (hb.mono B5.out.size))
    replace KA := Lib.hid (KA.out.step hb)
    replace KB := Lib.hid (KB.out.step hb)
    replace MM := Lib.hid (MM.out.step hb)
    replace Q := Lib.hid (Q.out.step hb)
    have R := Lib.hid hR
    have ER := Lib.hid eR
    clear hb hR eR
    have EM2 : Hid (sbs lM = mergeL sa sb) := Lib.hid (EM.out.trans MV.out.symm)
    go_wp2_with fail
    refine (iSibsMerge_e MM.out KB.out (by unfold maxLen; omega) (by unfold maxLen; omega) EM2.out SB.out (merge_again_e OK.out).1 ((merge_again_e OK.out).2.trans MV.out)).mono ?_
    rintro e w7 ⟨AS, cS, lS, rfl, hb, hS, hlS, eS⟩
    have B7 := Lib.hid (B6.out.trans (hb.mono B6.out.size))
    replace KA := Lib.hid (KA.out.step hb)
    replace KB := Lib.hid (KB.out.step hb)
    replace MM := Lib.hid (MM.out.step hb)
    replace Q := Lib.hid (Q.out.step hb)
    replace R := Lib.hid (R.out.step hb)
    have S := Lib.hid hS
    have ES := Lib.hid eS
    clear hb hS eS
    go_wp2_with fail
    refine (lvSibs_e Q.out MM.out (by unfold maxLen; omega) EQ.out EM.out).mono ?_
    rintro e w8 ⟨rfl, hb⟩
    have B8 := Lib.hid (B7.out.trans (hb.mono B7.out.size))
    replace KA := Lib.hid (KA.out.step hb)
    replace KB := Lib.hid (KB.out.step hb)
    replace MM := Lib.hid (MM.out.step hb)
    replace Q := Lib.hid (Q.out.step hb)
    replace R := Lib.hid (R.out.step hb)
    replace S := Lib.hid (S.out.step hb)
    clear hb
    go_wp2_with fail
    refine (lvSibs_e R.out KA.out (by unfold maxLen; omega) ER.out SA.out).mono ?_
    rintro e w9 ⟨rfl, hb⟩
    have B9 := Lib.hid (B8.out.trans (hb.mono B8.out.size))
    replace KA := Lib.hid (KA.out.step hb)
    replace KB := Lib.hid (KB.out.step hb)
    replace MM := Lib.hid (MM.out.step hb)
    replace Q := Lib.hid (Q.out.step hb)
    replace R := Lib.hid (R.out.step hb)
    replace S := Lib.hid (S.out.step hb)
    clear hb
    go_wp2_with fail
    refine (lvSibs_e S.out MM.out (by unfold maxLen; omega) ES.out EM.out).mono ?_
    rintro e w10 ⟨rfl, hb⟩
    have B10 := Lib.hid (B9.out.trans (hb.mono B9.out.size))
    replace KA := Lib.hid (KA.out.step hb)
    replace KB := Lib.hid (KB.out.step hb)
    replace MM := Lib.hid (MM.out.step hb)
    replace Q := Lib.hid (Q.out.step hb)
    replace R := Lib.hid (R.out.step hb)
    replace S := Lib.hid (S.out.step hb)
    clear hb
    go_wp2
    go_ret
    exact ⟨rfl, B10.out⟩

end Go.Proofs.YtlmjgbonoihccaaDoor
