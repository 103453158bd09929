
/-
  The walk of the law FnSibsIn. (Printed by gen/merge.py.)
-/
import Derived.Test.YtlmjgbonoihccaaDoorMergeK
import Derived.Test.YtlmjgbonoihccaaDoorExKit
namespace Go.Proofs.YtlmjgbonoihccaaDoor
open Go.RowKit Go.PlainAid

set_option maxRecDepth 100000 in
set_option linter.unusedSimpArgs false in
set_option maxHeartbeats 3200000 in
theorem FnSibsIn_walk (A A' : Option Addr) (n n' c c' : Nat) (zs zs' : List Int) (w : World) (h : Came w A n c zs) (h' : Came w A' n' c' zs') :
    Calls Tryd.prog 13 #[.slice A n c, .slice A' n' c'] w fun e w' => e = .returned (.bool true) ∧ Below w.heap.size w w' := by
  by_cases big : 1048576 < n
  · go_enter Tryd.func13, Tryd.ntmps13
    go_wp2
    go_ret
    exact ⟨rfl, Below.refl _ _⟩
  by_cases big' : 1048576 < n'
  · go_enter Tryd.func13, Tryd.ntmps13
    go_wp2
    go_ret
    exact ⟨rfl, Below.refl _ _⟩
  have H := Lib.hid h
  have H' := Lib.hid h'
  clear h'
  clear h
  have B0 := Lib.hid (Below.refl w.heap.size w)
  go_enter Tryd.func13, Tryd.ntmps13
  clear H'
  go_wp2_with fail
  refine (DrawSibsShow_cap A n c zs _ H.out).mono ?_
  rintro e w1 ⟨gg, c1, ks, rfl, hl, hcap, hb, hI⟩
  have B1 := Lib.hid (B0.out.trans (hb.mono B0.out.size))
  replace H := Lib.hid (H.out.step hb)
  have KA := Lib.hid hI
  clear hb hI
  clear H
  obtain ⟨N, hN⟩ : ∃ N, ks.length = N := ⟨_, rfl⟩
  rw [hN] at hl hcap KA ⊢
  have LN := Lib.hid hN
  clear hN
  obtain ⟨sa, hsa⟩ : ∃ sa, sbs ks = sa := ⟨_, rfl⟩
  have SA := Lib.hid hsa
  clear hsa
  obtain ⟨ok, hok⟩ : ∃ ok, sibsOk sa = ok := ⟨_, rfl⟩
  have OK := Lib.hid hok
  clear hok
  obtain ⟨ts, hts⟩ : ∃ ts, showOk (sbs ks) = ts := ⟨_, rfl⟩
  have TS := Lib.hid hts
  clear hts
  have hT : ts.length ≤ N := by have h1 := len_showOk (sbs ks); rw [TS.out, sbs_len, LN.out] at h1; exact h1
  go_wp2_with fail
  refine (iSibsShow_e (ts := ts) KA.out (by omega) TS.out).mono ?_
  rintro e w2 ⟨AU, cU, rfl, hb, hU⟩
  have B2 := Lib.hid (B1.out.trans (hb.mono B1.out.size))
  replace KA := Lib.hid (KA.out.step hb)
  have EU := Lib.hid hU
  clear hb hU
  obtain ⟨T, hTT⟩ : ∃ T, ts.length = T := ⟨_, rfl⟩
  rw [hTT] at hT ⊢
  have LT := Lib.hid hTT
  clear hTT EU
  go_wp2_with fail
  refine (sSibsShow_e (ts := ts) KA.out (by omega) TS.out).mono ?_
  rintro e w3 ⟨AX, cX, rfl, hb, hX⟩
  rw [LT.out]
  have B3 := Lib.hid (B2.out.trans (hb.mono B2.out.size))
  replace KA := Lib.hid (KA.out.step hb)
  have EX := Lib.hid hX
  clear hb hX
  clear EX
  go_wp2_with fail
  refine (sSibsOk_k KA.out (by unfold maxLen; omega) ((congrArg sibsOk SA.out).trans OK.out)).mono ?_
  rintro e w4 ⟨rfl, hb⟩
  have B4 := Lib.hid (B3.out.trans (hb.mono B3.out.size))
  replace KA := Lib.hid (KA.out.step hb)
  clear hb
  cases ok
  · go_wp2_with fail
    refine (sSibsShow_e (ts := ts) KA.out (by omega) TS.out).mono ?_
    rintro e w5 ⟨AX, cX, rfl, hb, hX⟩
    rw [LT.out]
    have B5 := Lib.hid (B4.out.trans (hb.mono B4.out.size))
    replace KA := Lib.hid (KA.out.step hb)
    have EX := Lib.hid hX
    clear hb hX
    clear EX
    go_wp2
    go_ret
    exact ⟨rfl, B5.out⟩
  · have N1 : 1 ≤ N := (sibs_len12 OK.out (by rw [← SA.out, sbs_len, LN.out])).1
    obtain ⟨q, hq, hqN⟩ : ∃ q : Nat, Int.tmod (n' : Int) (N : Int) = (q : Int) ∧ q < N := ⟨n' % N, by rw [Int.tmod_eq_emod_of_nonneg (by omega)]; rfl, Nat.mod_lt _ N1⟩
    have N0 : ¬ (N : Int) = 0 := by omega
    have j1 : (q : Int) < (N : Int) := by omega
    have j2 : (0 : Int) ≤ (q : Int) := by omega
    have j4 : (q : Int) + 1 ≤ (N : Int) := by omega
    have j5 : (0 : Int) ≤ (q : Int) + 1 := by omega
    have j9 : IntKind.i64.wrap ((q : Int) + 1) = (q : Int) + 1 := IntWalk.i64_in _ (by omega)
    have j10 : ((q : Int) + 1).toNat = q + 1 := by omega
    have j7 : q + 1 ≤ c1 := by omega
    have j11 : ¬ c1 = q := by omega
    have j12 : (q : Int) + 1 ≤ (c1 : Int) := by omega
    obtain ⟨x, hx⟩ : ∃ x, ks[q]? = some x := ⟨_, List.getElem?_eq_getElem (by rw [LN.out]; exact hqN)⟩
    have PX : Hid (sbs ((ks.drop q).take 1) = [x.s]) := Lib.hid (by
      obtain ⟨h1, e⟩ := List.getElem?_eq_some_iff.1 hx
      rw [List.drop_eq_getElem_cons h1, e]; rfl)
    have MX : Hid (x.s ∈ sa) := Lib.hid (by rw [← SA.out]; exact List.mem_of_getElem? (sbs_at hx))
    clear hx
    have KX : Hid (HasS w4 (some ⟨gg, q * 3, none⟩) 1 ((ks.drop q).take 1)) := Lib.hid (by have := (Sibs.post KA.out (k := q) (by omega)).pre (k := 1) (by omega); rw [Nat.zero_add] at this; exact this)
    go_wp2_with fail
    refine (iSibsMerge_e KA.out KX.out (by unfold maxLen; omega) (by unfold maxLen; omega) SA.out PX.out (merge_part OK.out MX.out).1 (merge_part OK.out MX.out).2).mono ?_
    rintro e w5 ⟨AM, cM, lM, rfl, hb, hM, hlM, eM⟩
    have B5 := Lib.hid (B4.out.trans (hb.mono B4.out.size))
    replace KA := Lib.hid (KA.out.step hb)
    replace KX := Lib.hid (KX.out.step hb)
    have MM := Lib.hid hM
    have EM := Lib.hid eM
    clear hb hM eM
    go_wp2_with fail
    refine (lvSibs_e MM.out KA.out (by unfold maxLen; omega) EM.out SA.out).mono ?_
    rintro e w6 ⟨rfl, hb⟩
    have B6 := Lib.hid (B5.out.trans (hb.mono B5.out.size))
    replace KA := Lib.hid (KA.out.step hb)
    replace KX := Lib.hid (KX.out.step hb)
    replace MM := Lib.hid (MM.out.step hb)
    clear hb
    have j20 : (T : Int) ≤ (N : Int) := by omega
    go_wp2
    go_ret
    exact ⟨rfl, B6.out⟩

end Go.Proofs.YtlmjgbonoihccaaDoor
