
/-
  The walk of the law FnSibsMerge. (Printed by gen/merge.py.)
-/
import Derived.Test.YtlmjgbonoihccaaDoorMergeK
import Derived.Test.YtlmjgbonoihccaaDoorSibsP
namespace Go.Proofs.YtlmjgbonoihccaaDoor
open Go.RowKit Go.PlainAid

set_option maxRecDepth 100000 in
set_option linter.unusedSimpArgs false in
set_option maxHeartbeats 3200000 in
theorem FnSibsMerge_walk (A : Option Addr) (n c : Nat) (zs : List Int) (w : World) (h : Came w A n c zs) :
    Calls Tryd.prog 14 #[.slice A n c] w fun e w' => e = .returned (.bool true) ∧ Below w.heap.size w w' := by
  by_cases big : 1048576 < n
  · go_enter Tryd.func14, Tryd.ntmps14
    go_wp2
    go_ret
    exact ⟨rfl, Below.refl _ _⟩
  have H := Lib.hid h
  clear h
  have B0 := Lib.hid (Below.refl w.heap.size w)
  go_enter Tryd.func14, Tryd.ntmps14
  go_wp2_with fail
  refine (DrawSibsMerge_any A n c zs _ H.out).mono ?_
  rintro e w1 ⟨g1, c1, ks, g2, c2, ls, rfl, hk, hl, hb, hI, hJ⟩
  have B1 := Lib.hid (B0.out.trans (hb.mono B0.out.size))
  replace H := Lib.hid (H.out.step hb)
  have KA := Lib.hid hI
  have KB := Lib.hid hJ
  clear hb hI hJ
  clear H
  obtain ⟨N, hN⟩ : ∃ N, ks.length = N := ⟨_, rfl⟩
  rw [hN] at hk KA ⊢
  have LN := Lib.hid hN
  clear hN
  obtain ⟨M, hM⟩ : ∃ M, ls.length = M := ⟨_, rfl⟩
  rw [hM] at hl KB ⊢
  have LM := Lib.hid hM
  clear hM
  obtain ⟨sa, hsa⟩ : ∃ sa, sbs ks = sa := ⟨_, rfl⟩
  have SA := Lib.hid hsa
  clear hsa
  obtain ⟨sb, hsb⟩ : ∃ sb, sbs ls = sb := ⟨_, rfl⟩
  have SB := Lib.hid hsb
  clear hsb
  obtain ⟨ok, hok⟩ : ∃ ok, mergeOk sa sb = ok := ⟨_, rfl⟩
  have OK := Lib.hid hok
  clear hok
  obtain ⟨ts, hts⟩ : ∃ ts, mergeV sa sb = ts := ⟨_, rfl⟩
  have TS := Lib.hid hts
  clear hts
  go_wp2_with fail
  refine (sSibsMerge_e KA.out KB.out (by unfold maxLen; omega) (by unfold maxLen; omega) SA.out SB.out OK.out TS.out).mono ?_
  rintro e w2 ⟨AW, cW, lW, rfl, hb, hW, hlW, eW⟩
  have B2 := Lib.hid (B1.out.trans (hb.mono B1.out.size))
  replace KA := Lib.hid (KA.out.step hb)
  replace KB := Lib.hid (KB.out.step hb)
  have W := Lib.hid hW
  have EW := Lib.hid eW
  clear hb hW eW
  go_wp2_with fail
  refine (iSibsMerge_e KA.out KB.out (by unfold maxLen; omega) (by unfold maxLen; omega) SA.out SB.out OK.out TS.out).mono ?_
  rintro e w3 ⟨AM, cM, lM, rfl, hb, hM, hlM, eM⟩
  have B3 := Lib.hid (B2.out.trans (hb.mono B2.out.size))
  replace KA := Lib.hid (KA.out.step hb)
  replace KB := Lib.hid (KB.out.step hb)
  replace W := Lib.hid (W.out.step hb)
  have MM := Lib.hid hM
  have EM := Lib.hid eM
  clear hb hM eM
  cases ok
  · go_wp2_with fail
    refine (lvSibs_e MM.out W.out (by unfold maxLen; omega) EM.out EW.out).mono ?_
    rintro e w4 ⟨rfl, hb⟩
    have B4 := Lib.hid (B3.out.trans (hb.mono B3.out.size))
    replace KA := Lib.hid (KA.out.step hb)
    replace KB := Lib.hid (KB.out.step hb)
    replace W := Lib.hid (W.out.step hb)
    replace MM := Lib.hid (MM.out.step hb)
    clear hb
    go_wp2_with fail
    refine (lvSibs_e MM.out W.out (by unfold maxLen; omega) EM.out EW.out).mono ?_
    rintro e w5 ⟨rfl, hb⟩
    have B5 := Lib.hid (B4.out.trans (hb.mono B4.out.size))
    replace KA := Lib.hid (KA.out.step hb)
    replace KB := Lib.hid (KB.out.step hb)
    replace W := Lib.hid (W.out.step hb)
    replace MM := Lib.hid (MM.out.step hb)
    clear hb
    go_wp2
    go_ret
    exact ⟨rfl, B5.out⟩
  · have MV : Hid (mergeL sa sb = ts) := Lib.hid ((mergeV_yes OK.out).symm.trans TS.out)
    go_wp2_with fail
    refine (lvSibs_e MM.out W.out (by unfold maxLen; omega) EM.out EW.out).mono ?_
    rintro e w4 ⟨rfl, hb⟩
    have B4 := Lib.hid (B3.out.trans (hb.mono B3.out.size))
    replace KA := Lib.hid (KA.out.step hb)
    replace KB := Lib.hid (KB.out.step hb)
    replace W := Lib.hid (W.out.step hb)
    replace MM := Lib.hid (MM.out.step hb)
    clear hb
    clear W
    clear EW
    have nm : 1 ≤ N ∧ N ≤ 12 := sibs_len12 (mergeOk_iff.1 OK.out).1 (by rw [← SA.out, sbs_len, LN.out])
    have mm : 1 ≤ M ∧ M ≤ 12 := sibs_len12 (mergeOk_iff.1 OK.out).2.1 (by rw [← SB.out, sbs_len, LM.out])
    obtain ⟨Q, hQ⟩ : ∃ Q, lM.length = Q := ⟨_, rfl⟩
    rw [hQ] at hlM MM ⊢
    have LQ := Lib.hid hQ
    clear hQ
    go_wp2_with (first
      | (at_builtin; refine app_second _ rfl (.tmp 55) (.tmp 56) rfl w4.heap.size BA.out.size gA N cA ks rfl OA.out (by omega) ⟨g2, 0, none⟩ M c2 ls KBA.out (by omega) (by omega) rfl ?_; intro gB cB wB hoB hbB hsB)
      | (at_builtin; go_must (refine app_first _ rfl (.tmp 53) (.tmp 54) rfl w4 _ rfl rfl ⟨g1, 0, none⟩ N c1 ks KA.out (by omega) (by omega) rfl rfl ?_; intro gA cA wA hoA hbA
                              have KBA := Lib.hid (KB.out.step hbA)
                              have BA := Lib.hid hbA
                              have OA := Lib.hid hoA
                              clear hoA hbA)))
    have hb := BA.out.trans hbB
    have BB := Lib.hid (B4.out.trans (hb.mono B4.out.size))
    replace KA := Lib.hid (KA.out.step hb)
    replace KB := Lib.hid (KB.out.step hb)
    replace MM := Lib.hid (MM.out.step hb)
    have AL : Hid (HasS wB (some ⟨gB, 0, none⟩) (N + M) (ks ++ ls)) := Lib.hid (hasS_row hoB (fun x hx => (List.mem_append.1 hx).elim (KA.out.2 x) (KB.out.2 x)))
    clear hoB hbB hsB hb KBA BA OA
    obtain ⟨L, hL⟩ : ∃ L, N + M = L := ⟨_, rfl⟩
    obtain ⟨al, hal⟩ : ∃ al, ks ++ ls = al := ⟨_, rfl⟩
    have SAL : Hid (sbs al = sa ++ sb) := Lib.hid (by rw [← hal, sbs_append, SA.out, SB.out])
    rw [hL, hal] at AL
    rw [hL]
    have hL2 : L ≤ 24 := by omega
    clear hL hal
    have VAL : Hid (∀ x ∈ sbs al, vvOk x.vv = true) := Lib.hid (fun x hx => by rw [SAL.out] at hx; exact (List.mem_append.1 hx).elim (allOk (mergeOk_iff.1 OK.out).1 x) (allOk (mergeOk_iff.1 OK.out).2.1 x))
    have VK : Hid (∀ k ∈ al, k.n ≤ maxLen ∧ vvOk k.s.vv = true) := Lib.hid (fun k hk => ⟨(AL.out.2 k hk).2.1, VAL.out _ (List.mem_map.2 ⟨k, hk, rfl⟩)⟩)
    have YZ : Hid (∀ x ∈ sbs al, hasB (sbs lM) x = !(sbs al).any (known x)) := Lib.hid (fun x hx => by
      rw [EM.out, ← MV.out, SAL.out]
      rw [SAL.out] at hx
      exact has_known hx)
    clear KA KB
    go_wp2
    go_loopw [10] (fun i wr => ∃ k : Nat, k ≤ L ∧ i = .int .i64 k ∧ Hid (Below wB.heap.size wB wr)) (fun i _ => L - (intOf i).toNat)
    case atStart => exact ⟨0, Nat.zero_le _, rfl, Below.refl _ _⟩
    case round =>
      obtain ⟨k, hk, rfl, HB⟩ := hrel
      by_cases hlt : k < L
      · obtain ⟨b', off', A1, n1, d1, vv, g, t, e, hbl, c0, c1', c2', I, hn1, ht1, hx⟩ := AL.out.at_ hlt
        simp only [Option.some.injEq, Addr.mk.injEq, and_true] at e
        obtain ⟨rfl, rfl⟩ := e
        rw [Nat.zero_add] at c0 c1' c2'
        have Q0 := Lib.hid (cell_upC HB.out c0)
        have Q1 := Lib.hid (cell_upC HB.out c1')
        have Q2 := Lib.hid (cell_upC HB.out c2')
        have IR := Lib.hid (I.step HB.out)
        have MR := Lib.hid (MM.out.step HB.out)
        have LR := Lib.hid (AL.out.step HB.out)
        have VX : Hid (vvOk vv = true) := Lib.hid (VAL.out _ (List.mem_of_getElem? (sbs_at hx.out)))
        have i1 : (k : Int) < (L : Int) := by omega
        have i2 : (0 : Int) ≤ (k : Int) := by omega
        obtain ⟨z, hz⟩ : ∃ z, (sbs al).any (known ⟨vv, g, t⟩) = z := ⟨_, rfl⟩
        have HZ := Lib.hid hz
        have HY : Hid (hasB (sbs lM) ⟨vv, g, t⟩ = !z) := Lib.hid (by rw [← hz]; exact YZ.out _ (List.mem_of_getElem? (sbs_at hx.out)))
        clear c0 c1' c2' I hz
        go_wp2
        go_region_held3 (fun w' => w'.cell? ⟨gB, k * 3, none⟩ = some (.slice A1 n1 d1) ∧ w'.cell? ⟨gB, k * 3 + 1, none⟩ = some (.bool g) ∧ w'.cell? ⟨gB, k * 3 + 2, none⟩ = some (.string t) ∧ Has w' A1 n1 vv ∧ HasS w' AM Q lM ∧ HasS w' (some ⟨gB, 0, none⟩) L al ∧ Below wB.heap.size wB w')
          (first
            | exact ⟨by exact Q0.out, by exact Q1.out, by exact Q2.out, by exact IR.out, by exact MR.out, by exact LR.out, HB.out.drew⟩
            | (go_split_ands
               exact ⟨cell_upC hb (by assumption), cell_upC hb (by assumption), cell_upC hb (by assumption), Has.step (by assumption) hb, HasS.step (by assumption) hb, HasS.step (by assumption) hb, Below.trans (by assumption) (hb.mono (Below.size (by assumption)))⟩))
          (first
            | (go_at_call 45; go_split_ands; refine (lvHas_any _ _ _ _ _ _ lM vv _ _ _ (by assumption) (by assumption) (by unfold maxLen; omega)).mono ?_; rintro e w6 ⟨rfl, hb⟩; rw [HY.out])
            | (go_at_call 36; go_split_ands; refine (lvKnown_any _ _ _ _ _ _ vv _ _ al _ (by assumption) (by assumption) hn1 (by unfold maxLen; omega) VX.out VK.out).mono ?_; rintro e w6 ⟨rfl, hb⟩; rw [HZ.out]))
        all_goals go_split_ands
        all_goals have HBn := Lib.hid (show Below wB.heap.size wB _ by assumption)
        all_goals cases z
        all_goals go_wp2
        all_goals go_roundw
        all_goals first
          | (case rel => exact ⟨k + 1, by omega, by go_num, HBn.out⟩)
          | skip
        all_goals (simp [intOf]; omega)
      · obtain rfl : k = L := by omega
        have MR := Lib.hid (MM.out.step HB.out)
        have LR := Lib.hid (AL.out.step HB.out)
        have BR := Lib.hid (BB.out.trans (HB.out.mono BB.out.size))
        clear MM AL
        go_wp2
        go_loopw [11] (fun i w2 => ∃ j : Nat, j ≤ Q ∧ i = .int .i64 j ∧ Hid (Below wr.heap.size wr w2)) (fun i _ => Q - (intOf i).toNat)
        case atStart => exact ⟨0, Nat.zero_le _, rfl, Below.refl _ _⟩
        case round =>
          obtain ⟨j, hj, rfl, HB2⟩ := hrel
          have BR2 := Lib.hid (BR.out.trans (HB2.out.mono BR.out.size))
          by_cases hlj : j < Q
          · obtain ⟨b', off', A1, n1, d1, vv, g, t, e, hbl, c0, c1', c2', I, hn1, ht1, hx⟩ := MR.out.at_ hlj
            obtain rfl : AM = some ⟨b', off', none⟩ := e
            have q0 := cell_upC HB2.out c0
            have q1 := cell_upC HB2.out c1'
            have q2 := cell_upC HB2.out c2'
            have IR := Lib.hid (I.step HB2.out)
            have LR2 := Lib.hid (LR.out.step HB2.out)
            have HY : Hid (hasB (sbs al) ⟨vv, g, t⟩ = true) := Lib.hid (by
              have hm := List.mem_of_getElem? (sbs_at hx.out)
              rw [EM.out, ← MV.out] at hm
              rw [SAL.out]
              exact hasB_iff.2 (List.mem_append.2 (mem_mergeL.1 hm).1))
            clear c0 c1' c2' I
            go_wp2_with fail
            refine (lvHas_any _ _ _ _ _ _ al vv g t _ LR2.out IR.out (by unfold maxLen; omega)).mono ?_
            rintro e w6 ⟨rfl, hb⟩
            rw [HY.out]
            have B6 := Lib.hid (HB2.out.trans (hb.mono HB2.out.size))
            clear hb q0 q1 q2
            go_wp2
            go_roundw
            case rel => exact ⟨j + 1, by omega, by go_num, B6.out⟩
            case measure => simp [intOf]; omega
          · obtain rfl : j = Q := by omega
            have MR2 := Lib.hid (MR.out.step HB2.out)
            go_wp2_with fail
            refine (iSibsOk_any _ _ _ lM _ MR2.out (by unfold maxLen; omega)).mono ?_
            rintro e w6 ⟨rfl, hb⟩
            rw [EM.out, ← MV.out, (mergeOk_iff.1 OK.out).2.2]
            have B6 := Lib.hid (BR2.out.trans (hb.mono BR2.out.size))
            clear hb
            go_wp2
            go_ret
            exact ⟨rfl, B6.out⟩

end Go.Proofs.YtlmjgbonoihccaaDoor
