
/-
  The walk of the law FnSibsShow.
-/
import Derived.Test.YtlmjgbonoihccaaDoorSibsF
import Derived.Test.YtlmjgbonoihccaaDoorDrawL
namespace Go.Proofs.YtlmjgbonoihccaaDoor
open Go.RowKit Go.PlainAid

theorem shown_at {ss : List Sb} {k : Nat} {x : Sb} (hx : ss[k]? = some x) (hg : x.gone = false) : (shown ss)[(shownTo ss k).length]? = some x.text := by
  have e : shown ss = shownTo ss (k + 1) ++ shown (ss.drop (k + 1)) := by
    unfold shownTo shown
    rw [← List.map_append, ← List.filter_append, List.take_append_drop]
  rw [e, shownTo_succ hx, hg]
  simp

set_option maxRecDepth 100000 in
set_option maxHeartbeats 1600000 in
theorem FnSibsShow_walk (A : Option Addr) (n c : Nat) (zs : List Int) (w : World) (h : Came w A n c zs) :
    Calls Tryd.prog 7 #[.slice A n c] w fun e w' => e = .returned (.bool true) ∧ Below w.heap.size w w' := by
  by_cases big : 1048576 < n
  · go_enter Tryd.func7, Tryd.ntmps7
    go_wp2
    go_ret
    exact ⟨rfl, Below.refl _ _⟩
  have H := Lib.hid h
  clear h
  go_enter Tryd.func7, Tryd.ntmps7
  go_wp2_with fail
  refine (DrawSibsShow_any A n c zs _ H.out).mono ?_
  rintro e w1 ⟨gg, c1, ks, rfl, hl, hb, hI⟩
  have B1 := Lib.hid hb
  have I1 := Lib.hid hI
  obtain ⟨N, hN⟩ : ∃ N, ks.length = N := ⟨_, rfl⟩
  rw [hN] at hl
  clear hb hI
  rw [hN] at I1 ⊢
  have HN := Lib.hid hN
  clear hN
  obtain ⟨ts, hts⟩ : ∃ ts, showOk (sbs ks) = ts := ⟨_, rfl⟩
  have TS := Lib.hid hts
  clear hts
  go_wp2_with fail
  refine (iSibsShow_any _ N c1 ks _ I1.out (by omega)).mono ?_
  rintro e w2 ⟨AW, cW, rfl, hb, hW⟩
  rw [TS.out] at hW ⊢
  have B2 := Lib.hid (B1.out.trans (hb.mono B1.out.size))
  have I2 := Lib.hid (I1.out.step hb)
  have W2 := Lib.hid hW.txts
  clear hb hW I1
  go_wp2_with fail
  refine (sSibsShow_any _ N c1 ks _ I2.out (by omega)).mono ?_
  rintro e w3 ⟨AX, cX, rfl, hb, hX⟩
  rw [TS.out]
  have B3 := Lib.hid (B2.out.trans (hb.mono B2.out.size))
  have I3 := Lib.hid (I2.out.step hb)
  have W3 := Lib.hid ((W2.out.below hb (Nat.le_refl _)).wide (Nat.zero_le _) hb.size)
  obtain ⟨M, hM⟩ : ∃ M, ts.length = M := ⟨_, rfl⟩
  rw [hM] at W3 ⊢
  have HM := Lib.hid hM
  clear hb hX I2 W2 hM
  by_cases k1 : sibsOk (sbs ks) = true
  · go_wp2_with fail
    refine (sSibsOk_any _ N c1 ks _ I3.out (by unfold maxLen; omega)).mono ?_
    rintro e w4 ⟨rfl, hb⟩
    rw [k1]
    have B4 := Lib.hid (B3.out.trans (hb.mono B3.out.size))
    have I4 := Lib.hid (I3.out.step hb)
    have W4 := Lib.hid (W3.out.below hb (Nat.le_refl _))
    clear hb I3 W3
    have ST : Hid (shown (sbs ks) = ts) := Lib.hid ((showOk_yes k1).symm.trans TS.out)
    have hM0 : M ≤ N := by have h1 := len_shown (sbs ks); rw [ST.out, sbs_len, HN.out, HM.out] at h1; exact h1
    go_wp2
    go_loopw [6, 7] (fun v i wr => ∃ k m : Nat, k ≤ N ∧ i = .int .i64 k ∧ v = .int .i64 m ∧ Hid (m = (shownTo (sbs ks) k).length) ∧ Hid (Below w4.heap.size w4 wr)) (fun _ i _ => N - (intOf i).toNat)
    case atStart => exact ⟨0, 0, Nat.zero_le _, rfl, rfl, by rw [shownTo_zero]; exact Lib.hid rfl, Below.refl _ _⟩
    case round =>
      obtain ⟨k, m, hk, rfl, rfl, HL, HB⟩ := hrel
      by_cases hlt : k < N
      · have hm' : m ≤ k := by rw [HL.out]; exact len_shownTo _ _
        obtain ⟨b, off, A', n', c', vv, g, t, hA, hbl, c0, c1', c2, I, hn', ht', hx⟩ := I4.out.at_ hlt
        injection hA with hA
        injection hA with hA1 hA2
        subst hA1
        subst hA2
        have q0 := cell_upC HB.out c0
        have q1 := cell_upC HB.out c1'
        have q2 := cell_upC HB.out c2
        have hs := shownTo_succ (sbs_at hx.out)
        clear c0 c1' c2 I
        rw [Nat.zero_add] at q0 q1 q2
        cases g
        · have ha := shown_at (sbs_at hx.out) rfl
          rw [ST.out, ← HL.out] at ha
          have hmM : m < M := by rw [← HM.out]; exact (List.getElem?_eq_some_iff.1 ha).1
          obtain ⟨b', off', t', rfl, hb', cT, hT⟩ := W4.out.at_ hmM
          have qT := cell_upC HB.out cT
          have : t' = t := by
            have := hT.out
            rw [ha] at this
            injection this with this
            exact this.symm
          subst this
          have HS : Hid (m + 1 = (shownTo (sbs ks) (k + 1)).length) := Lib.hid (by rw [hs, List.length_append, ← HL.out]; rfl)
          clear hs ha hT cT
          go_wp2
          have hd : decide ((M : Int) ≤ (m : Int)) = false := by simp; omega
          go_quiet (fail)
          go_wp2
          go_roundw
          case rel => exact ⟨k + 1, m + 1, by omega, by go_num, by go_num, HS, Lib.hid (bel_drewN HB.out _)⟩
          case measure => simp [intOf]; omega
        · have HS : Hid (m = (shownTo (sbs ks) (k + 1)).length) := Lib.hid (by rw [hs, List.length_append, ← HL.out]; rfl)
          clear hs
          go_wp2
          go_roundw
          case rel => exact ⟨k + 1, m, by omega, by go_num, rfl, HS, HB⟩
          case measure => simp [intOf]; omega
      · have e : shownTo (sbs ks) k = shown (sbs ks) := shownTo_all (by rw [sbs_len, HN.out]; omega)
        have hmM : m = M := by rw [HL.out, e, ST.out, HM.out]
        subst hmM
        go_wp2
        go_ret
        exact ⟨rfl, B4.out.trans (HB.out.mono B4.out.size)⟩
  · have k1' : sibsOk (sbs ks) = false := by simpa using k1
    clear k1
    go_wp2_with fail
    refine (sSibsOk_any _ N c1 ks _ I3.out (by unfold maxLen; omega)).mono ?_
    rintro e w4 ⟨rfl, hb⟩
    rw [k1']
    have B4 := Lib.hid (B3.out.trans (hb.mono B3.out.size))
    clear hb
    go_wp2
    go_ret
    exact ⟨rfl, B4.out⟩

end Go.Proofs.YtlmjgbonoihccaaDoor
