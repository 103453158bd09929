
/-
  The walk of the law FnSibsForm. (Printed by gen/sibsform.py.)
-/
import Derived.Test.YtlmjgbonoihccaaDoorSibsP
import Derived.Test.YtlmjgbonoihccaaDoorSibsC
import Derived.Test.YtlmjgbonoihccaaDoorSibsQ
import Derived.Test.YtlmjgbonoihccaaDoorSibsM
import Derived.Test.YtlmjgbonoihccaaDoorSibsD
import Derived.Test.YtlmjgbonoihccaaDoorDrawL
namespace Go.Proofs.YtlmjgbonoihccaaDoor
open Go.RowKit Go.PlainAid

set_option maxRecDepth 100000 in
set_option linter.unusedSimpArgs false in
set_option maxHeartbeats 6400000 in
theorem FnSibsForm_walk (A A' : Option Addr) (n n' c c' : Nat) (zs zs' : List Int) (w : World) (h : Came w A n c zs) (_ : Came w A' n' c' zs') :
    Calls Tryd.prog 8 #[.slice A n c, .slice A' n' c'] w fun e w' => e = .returned (.bool true) ∧ Below w.heap.size w w' := by
  by_cases big : 1048576 < n
  · go_enter Tryd.func8, Tryd.ntmps8
    go_wp2
    go_ret
    exact ⟨rfl, Below.refl _ _⟩
  by_cases big' : 1048576 < n'
  · go_enter Tryd.func8, Tryd.ntmps8
    go_wp2
    go_ret
    exact ⟨rfl, Below.refl _ _⟩
  have H := Lib.hid h
  clear h
  go_enter Tryd.func8, Tryd.ntmps8
  go_wp2_with fail
  refine (DrawSibsOk_any A n c zs _ H.out).mono ?_
  rintro e w1 ⟨gg, c1, ks, rfl, hl, hcap, hb, hI⟩
  have B1 := Lib.hid hb
  have I1 := Lib.hid hI
  obtain ⟨N, hN⟩ : ∃ N, ks.length = N := ⟨_, rfl⟩
  rw [hN] at hl hcap
  clear hb hI
  rw [hN] at I1 ⊢
  have HN := Lib.hid hN
  have hNm : N ≤ maxLen := by unfold maxLen; omega
  clear hN
  go_wp2_with fail
  refine (iSibsOk_any _ N c1 ks _ I1.out hNm).mono ?_
  rintro e w2 ⟨rfl, hb⟩
  have B2 := Lib.hid (B1.out.trans (hb.mono B1.out.size))
  have I2 := Lib.hid (I1.out.step hb)
  clear hb I1
  go_wp2_with fail
  refine (sSibsOk_any _ N c1 ks _ I2.out hNm).mono ?_
  rintro e w3 ⟨rfl, hb⟩
  have B3 := Lib.hid (B2.out.trans (hb.mono B2.out.size))
  have I3 := Lib.hid (I2.out.step hb)
  clear hb I2
  by_cases k1 : sibsOk (sbs ks) = true
  · rw [k1]
    have OKF := Lib.hid (sibsOk_iff.1 k1)
    have AL : Hid (∀ k ∈ ks, k.n ≤ maxLen ∧ vvOk k.s.vv = true) := Lib.hid (fun k hk => ⟨(I3.out.2 k hk).2.1, sibOk_vv (OKF.out.1 _ (List.mem_map.2 ⟨k, hk, rfl⟩))⟩)
    have N1 : 1 ≤ N := by have := OKF.out.2.2.2.1; rw [sbs_len, HN.out] at this; exact this
    have K1 := Lib.hid k1
    clear k1 B1 B2 H
    go_wp2
    go_loopw [7] (fun i wr => ∃ k : Nat, k ≤ N ∧ i = .int .i64 k ∧ Hid (Below w3.heap.size w3 wr)) (fun i _ => N - (intOf i).toNat)
    case atStart => exact ⟨0, Nat.zero_le _, rfl, Below.refl _ _⟩
    case round =>
      obtain ⟨k, hk, rfl, HB⟩ := hrel
      by_cases hlt : k < N
      · obtain ⟨b', off', A1, n1, d1, vv, g, t, e, hbl, c0, c1', c2, I, hn1, ht1, hx⟩ := I3.out.at_ hlt
        simp only [Option.some.injEq, Addr.mk.injEq, and_true] at e
        obtain ⟨rfl, rfl⟩ := e
        rw [Nat.zero_add] at c0 c1' c2
        have Q0 := Lib.hid (cell_upC HB.out c0)
        have Q1 := Lib.hid (cell_upC HB.out c1')
        have Q2 := Lib.hid (cell_upC HB.out c2)
        have IR := Lib.hid (I.step HB.out)
        clear c0 c1' c2 I
        have hs : sibOk ⟨vv, g, t⟩ = true := (OKF.out).1 _ (List.mem_of_getElem? (sbs_at hx.out))
        have VX : Hid (vvOk vv = true) := Lib.hid (sibOk_vv hs)
        have KX : Hid ((sbs ks).any (known ⟨vv, g, t⟩) = false) := Lib.hid (by
          rw [List.any_eq_false]
          intro y hy
          rw [(OKF.out).2.2.1 _ (List.mem_of_getElem? (sbs_at hx.out)) y hy]
          exact Bool.false_ne_true)
        have LR := Lib.hid (I3.out.step HB.out)
        match k with
        | 0 =>
          go_wp2
          have Q0 : Hid (wr.cell? ⟨gg, 0, none⟩ = some (.slice A1 n1 d1)) := Q0
          have Q1 : Hid (wr.cell? ⟨gg, 1, none⟩ = some (.bool g)) := by simpa using Q1
          have Q2 : Hid (wr.cell? ⟨gg, 2, none⟩ = some (.string t)) := by simpa using Q2
          refine wp_region_held_drew (S := (fun w' => w'.cell? ⟨gg, 0, none⟩ = some (.slice A1 n1 d1) ∧ w'.cell? ⟨gg, 1, none⟩ = some (.bool g) ∧ w'.cell? ⟨gg, 2, none⟩ = some (.string t) ∧ Has w' A1 n1 vv ∧ HasS w' (some ⟨gg, 0, none⟩) N ks ∧ Below w3.heap.size w3 w')) (by kernel_rfl) ?_ (fun hHeld => ?_)
          · exact ⟨by exact Q0.out, by exact Q1.out, by exact Q2.out, by exact IR.out, by exact LR.out, HB.out.drew⟩
          refine heldT (i := 0) (d := 40) (v := ?_) rfl rfl (by kernel_rfl) (by kernel_rfl) (by kernel_rfl) (fun _ _ _ h => h) (by kernel_rfl) ?_ (by assumption) ?_
          rotate_left
          · (intro w hSw; (try dsimp only at hSw); go_simp; try with_reducible rfl)
          simp only [Act.put, List.setIfInBounds_toArray, List.set_cons_zero, List.set_cons_succ]
          refine heldT (i := 1) (d := 41) (v := ?_) rfl rfl (by kernel_rfl) (by kernel_rfl) (by kernel_rfl) (fun _ _ _ h => h) (by kernel_rfl) ?_ (by assumption) ?_
          rotate_left
          · (intro w hSw; (try dsimp only at hSw); go_simp; try with_reducible rfl)
          simp only [Act.put, List.setIfInBounds_toArray, List.set_cons_zero, List.set_cons_succ]
          refine heldT (i := 2) (d := 42) (v := ?_) rfl rfl (by kernel_rfl) (by kernel_rfl) (by kernel_rfl) (fun _ _ _ h => h) (by kernel_rfl) ?_ (by assumption) ?_
          rotate_left
          · (intro w hSw; (try dsimp only at hSw); go_simp; try with_reducible rfl)
          simp only [Act.put, List.setIfInBounds_toArray, List.set_cons_zero, List.set_cons_succ]
          refine heldT (i := 3) (d := 43) (v := ?_) rfl rfl (by kernel_rfl) (by kernel_rfl) (by kernel_rfl) (fun _ _ _ h => h) (by kernel_rfl) ?_ (by assumption) ?_
          rotate_left
          · (intro w hSw; (try dsimp only at hSw); go_simp; try with_reducible rfl)
          simp only [Act.put, List.setIfInBounds_toArray, List.set_cons_zero, List.set_cons_succ]
          refine wpAnyH_ready (rs := [4]) (by kernel_rfl) (by simp) ?_
          refine AllReadyH.cons rfl (fun K hK => ?_) AllReadyH.nil
          go_simp
          go_at_call 35
          go_split_ands
          refine (iSibOk_any _ _ _ vv _ _ _ (by assumption) hn1).mono ?_
          rintro e w6 ⟨rfl, hb⟩
          rw [hs]
          refine hK.out _ _ ?_ (fun hHeld => ?_)
          · go_split_ands
            exact ⟨cell_upC hb (by assumption), cell_upC hb (by assumption), cell_upC hb (by assumption), Has.step (by assumption) hb, HasS.step (by assumption) hb, Below.trans (by assumption) (hb.mono (Below.size (by assumption)))⟩
          clear hK K
          try simp only [Act.put, List.setIfInBounds_toArray, List.set_cons_zero, List.set_cons_succ]
          refine heldT (i := 5) (d := 45) (v := ?_) rfl rfl (by kernel_rfl) (by kernel_rfl) (by kernel_rfl) (fun _ _ _ h => h) (by kernel_rfl) ?_ (by assumption) ?_
          rotate_left
          · (intro w hSw; (try dsimp only at hSw); go_simp; try with_reducible rfl)
          simp only [Act.put, List.setIfInBounds_toArray, List.set_cons_zero, List.set_cons_succ]
          refine heldT (i := 6) (d := 46) (v := ?_) rfl rfl (by kernel_rfl) (by kernel_rfl) (by kernel_rfl) (fun _ _ _ h => h) (by kernel_rfl) ?_ (by assumption) ?_
          rotate_left
          · (intro w hSw; (try dsimp only at hSw); go_simp; try with_reducible rfl)
          simp only [Act.put, List.setIfInBounds_toArray, List.set_cons_zero, List.set_cons_succ]
          refine heldT (i := 7) (d := 47) (v := ?_) rfl rfl (by kernel_rfl) (by kernel_rfl) (by kernel_rfl) (fun _ _ _ h => h) (by kernel_rfl) ?_ (by assumption) ?_
          rotate_left
          · (intro w hSw; (try dsimp only at hSw); go_simp; try with_reducible rfl)
          simp only [Act.put, List.setIfInBounds_toArray, List.set_cons_zero, List.set_cons_succ]
          refine heldT (i := 8) (d := 48) (v := ?_) rfl rfl (by kernel_rfl) (by kernel_rfl) (by kernel_rfl) (fun _ _ _ h => h) (by kernel_rfl) ?_ (by assumption) ?_
          rotate_left
          · (intro w hSw; (try dsimp only at hSw); go_simp; try with_reducible rfl)
          simp only [Act.put, List.setIfInBounds_toArray, List.set_cons_zero, List.set_cons_succ]
          refine heldT (i := 9) (d := 49) (v := ?_) rfl rfl (by kernel_rfl) (by kernel_rfl) (by kernel_rfl) (fun _ _ _ h => h) (by kernel_rfl) ?_ (by assumption) ?_
          rotate_left
          · (intro w hSw; (try dsimp only at hSw); go_simp; try with_reducible rfl)
          simp only [Act.put, List.setIfInBounds_toArray, List.set_cons_zero, List.set_cons_succ]
          refine heldT (i := 10) (d := 50) (v := ?_) rfl rfl (by kernel_rfl) (by kernel_rfl) (by kernel_rfl) (fun _ _ _ h => h) (by kernel_rfl) ?_ (by assumption) ?_
          rotate_left
          · (intro w hSw; (try dsimp only at hSw); go_simp; try with_reducible rfl)
          simp only [Act.put, List.setIfInBounds_toArray, List.set_cons_zero, List.set_cons_succ]
          refine heldT (i := 11) (d := 51) (v := ?_) rfl rfl (by kernel_rfl) (by kernel_rfl) (by kernel_rfl) (fun _ _ _ h => h) (by kernel_rfl) ?_ (by assumption) ?_
          rotate_left
          · (intro w hSw; (try dsimp only at hSw); go_simp; try with_reducible rfl)
          simp only [Act.put, List.setIfInBounds_toArray, List.set_cons_zero, List.set_cons_succ]
          refine wpAnyH_ready (rs := [12]) (by kernel_rfl) (by simp) ?_
          refine AllReadyH.cons rfl (fun K hK => ?_) AllReadyH.nil
          go_simp
          go_at_call 36
          go_split_ands
          refine (lvKnown_any _ _ _ _ _ _ vv _ _ ks _ (by assumption) (by assumption) hn1 hNm VX.out (AL.out)).mono ?_
          rintro e w6 ⟨rfl, hb⟩
          rw [KX.out]
          refine hK.out _ _ ?_ (fun hHeld => ?_)
          · go_split_ands
            exact ⟨cell_upC hb (by assumption), cell_upC hb (by assumption), cell_upC hb (by assumption), Has.step (by assumption) hb, HasS.step (by assumption) hb, Below.trans (by assumption) (hb.mono (Below.size (by assumption)))⟩
          clear hK K
          try simp only [Act.put, List.setIfInBounds_toArray, List.set_cons_zero, List.set_cons_succ]
          refine heldT (i := 13) (d := 53) (v := ?_) rfl rfl (by kernel_rfl) (by kernel_rfl) (by kernel_rfl) (fun _ _ _ h => h) (by kernel_rfl) ?_ (by assumption) ?_
          rotate_left
          · (intro w hSw; (try dsimp only at hSw); go_simp; try with_reducible rfl)
          simp only [Act.put, List.setIfInBounds_toArray, List.set_cons_zero, List.set_cons_succ]
          refine heldT (i := 14) (d := 54) (v := ?_) rfl rfl (by kernel_rfl) (by kernel_rfl) (by kernel_rfl) (fun _ _ _ h => h) (by kernel_rfl) ?_ (by assumption) ?_
          rotate_left
          · (intro w hSw; (try dsimp only at hSw); go_simp; try with_reducible rfl)
          simp only [Act.put, List.setIfInBounds_toArray, List.set_cons_zero, List.set_cons_succ]
          refine heldT (i := 15) (d := 55) (v := ?_) rfl rfl (by kernel_rfl) (by kernel_rfl) (by kernel_rfl) (fun _ _ _ h => h) (by kernel_rfl) ?_ (by assumption) ?_
          rotate_left
          · (intro w hSw; (try dsimp only at hSw); go_simp; try with_reducible rfl)
          simp only [Act.put, List.setIfInBounds_toArray, List.set_cons_zero, List.set_cons_succ]
          refine heldT (i := 16) (d := 56) (v := ?_) rfl rfl (by kernel_rfl) (by kernel_rfl) (by kernel_rfl) (fun _ _ _ h => h) (by kernel_rfl) ?_ (by assumption) ?_
          rotate_left
          · (intro w hSw; (try dsimp only at hSw); go_simp; try with_reducible rfl)
          simp only [Act.put, List.setIfInBounds_toArray, List.set_cons_zero, List.set_cons_succ]
          refine heldT (i := 17) (d := 57) (v := ?_) rfl rfl (by kernel_rfl) (by kernel_rfl) (by kernel_rfl) (fun _ _ _ h => h) (by kernel_rfl) ?_ (by assumption) ?_
          rotate_left
          · (intro w hSw; (try dsimp only at hSw); go_simp; try with_reducible rfl)
          simp only [Act.put, List.setIfInBounds_toArray, List.set_cons_zero, List.set_cons_succ]
          refine heldU (i := 18) (d := 58) rfl rfl (by kernel_rfl) (by kernel_rfl) (by kernel_rfl) (fun _ _ _ h => h) (by kernel_rfl) (by assumption) ?_
          simp only [Act.put, List.setIfInBounds_toArray, List.set_cons_zero, List.set_cons_succ]
          refine heldU (i := 19) (d := 59) rfl rfl (by kernel_rfl) (by kernel_rfl) (by kernel_rfl) (fun _ _ _ h => h) (by kernel_rfl) (by assumption) ?_
          simp only [Act.put, List.setIfInBounds_toArray, List.set_cons_zero, List.set_cons_succ]
          refine heldU (i := 20) (d := 60) rfl rfl (by kernel_rfl) (by kernel_rfl) (by kernel_rfl) (fun _ _ _ h => h) (by kernel_rfl) (by assumption) ?_
          simp only [Act.put, List.setIfInBounds_toArray, List.set_cons_zero, List.set_cons_succ]
          refine heldU (i := 21) (d := 61) rfl rfl (by kernel_rfl) (by kernel_rfl) (by kernel_rfl) (fun _ _ _ h => h) (by kernel_rfl) (by assumption) ?_
          simp only [Act.put, List.setIfInBounds_toArray, List.set_cons_zero, List.set_cons_succ]
          refine heldU (i := 22) (d := 62) rfl rfl (by kernel_rfl) (by kernel_rfl) (by kernel_rfl) (fun _ _ _ h => h) (by kernel_rfl) (by assumption) ?_
          simp only [Act.put, List.setIfInBounds_toArray, List.set_cons_zero, List.set_cons_succ]
          refine heldU (i := 23) (d := 63) rfl rfl (by kernel_rfl) (by kernel_rfl) (by kernel_rfl) (fun _ _ _ h => h) (by kernel_rfl) (by assumption) ?_
          simp only [Act.put, List.setIfInBounds_toArray, List.set_cons_zero, List.set_cons_succ]
          refine heldU (i := 24) (d := 64) rfl rfl (by kernel_rfl) (by kernel_rfl) (by kernel_rfl) (fun _ _ _ h => h) (by kernel_rfl) (by assumption) ?_
          simp only [Act.put, List.setIfInBounds_toArray, List.set_cons_zero, List.set_cons_succ]
          refine heldU (i := 25) (d := 65) rfl rfl (by kernel_rfl) (by kernel_rfl) (by kernel_rfl) (fun _ _ _ h => h) (by kernel_rfl) (by assumption) ?_
          simp only [Act.put, List.setIfInBounds_toArray, List.set_cons_zero, List.set_cons_succ]
          refine heldU (i := 26) (d := 66) rfl rfl (by kernel_rfl) (by kernel_rfl) (by kernel_rfl) (fun _ _ _ h => h) (by kernel_rfl) (by assumption) ?_
          simp only [Act.put, List.setIfInBounds_toArray, List.set_cons_zero, List.set_cons_succ]
          refine heldU (i := 27) (d := 67) rfl rfl (by kernel_rfl) (by kernel_rfl) (by kernel_rfl) (fun _ _ _ h => h) (by kernel_rfl) (by assumption) ?_
          simp only [Act.put, List.setIfInBounds_toArray, List.set_cons_zero, List.set_cons_succ]
          refine heldU (i := 28) (d := 68) rfl rfl (by kernel_rfl) (by kernel_rfl) (by kernel_rfl) (fun _ _ _ h => h) (by kernel_rfl) (by assumption) ?_
          simp only [Act.put, List.setIfInBounds_toArray, List.set_cons_zero, List.set_cons_succ]
          refine heldT (i := 29) (d := 69) (v := ?_) rfl rfl (by kernel_rfl) (by kernel_rfl) (by kernel_rfl) (fun _ _ _ h => h) (by kernel_rfl) ?_ (by assumption) ?_
          rotate_left
          · (intro w hSw; (try dsimp only at hSw); go_simp; try with_reducible rfl)
          simp only [Act.put, List.setIfInBounds_toArray, List.set_cons_zero, List.set_cons_succ]
          refine heldT (i := 30) (d := 70) (v := ?_) rfl rfl (by kernel_rfl) (by kernel_rfl) (by kernel_rfl) (fun _ _ _ h => h) (by kernel_rfl) ?_ (by assumption) ?_
          rotate_left
          · (intro w hSw; (try dsimp only at hSw); go_simp; try with_reducible rfl)
          simp only [Act.put, List.setIfInBounds_toArray, List.set_cons_zero, List.set_cons_succ]
          refine wpAnyH_done (by kernel_rfl) ?_ _

          go_split_ands
          have HBn := Lib.hid (show Below w3.heap.size w3 w6 by assumption)
          go_wp2
          go_roundw
          case rel => exact ⟨1, by omega, by go_num, HBn⟩
          case measure => simp [intOf]; omega
        | p + 1 =>
          obtain ⟨b', off', A3, n3, d3, vv3, g3, t3, e, hbl', c0, c1', c2, J, hn3, ht3, hy⟩ := I3.out.at_ (j := p) (by omega)
          simp only [Option.some.injEq, Addr.mk.injEq, and_true] at e
          obtain ⟨rfl, rfl⟩ := e
          rw [Nat.zero_add] at c0 c1' c2
          have P0 := Lib.hid (cell_upC HB.out c0)
          have P1 := Lib.hid (cell_upC HB.out c1')
          have P2 := Lib.hid (cell_upC HB.out c2)
          have JR := Lib.hid (J.step HB.out)
          have CX : Hid (cmpOk ⟨vv3, g3, t3⟩ ⟨vv, g, t⟩ = -1) := Lib.hid (by
            unfold cmpOk
            rw [(OKF.out).1 _ (List.mem_of_getElem? (sbs_at hx.out)), (OKF.out).1 _ (List.mem_of_getElem? (sbs_at hy.out))]
            exact asc_at OKF.out.2.1 (Nat.lt_succ_self p) (sbs_at hy.out) (sbs_at hx.out))
          have i1 : (p : Int) < (N : Int) := by omega
          have i2 : (p : Int) + 1 < (N : Int) := by omega
          have i3 : (0 : Int) ≤ (p : Int) + 1 := by omega
          have i4 : (0 : Int) ≤ (p : Int) := by omega
          have i5 : (0 : Int) < (p : Int) + 1 := by omega
          have i6 : IntKind.i64.wrap (p : Int) = (p : Int) := IntWalk.i64_in _ (by omega)
          clear c0 c1' c2 J
          go_wp2
          refine wp_region_held_drew (S := (fun w' => w'.cell? ⟨gg, (p + 1) * 3, none⟩ = some (.slice A1 n1 d1) ∧ w'.cell? ⟨gg, (p + 1) * 3 + 1, none⟩ = some (.bool g) ∧ w'.cell? ⟨gg, (p + 1) * 3 + 2, none⟩ = some (.string t) ∧ w'.cell? ⟨gg, p * 3, none⟩ = some (.slice A3 n3 d3) ∧ w'.cell? ⟨gg, p * 3 + 1, none⟩ = some (.bool g3) ∧ w'.cell? ⟨gg, p * 3 + 2, none⟩ = some (.string t3) ∧ Has w' A1 n1 vv ∧ Has w' A3 n3 vv3 ∧ HasS w' (some ⟨gg, 0, none⟩) N ks ∧ Below w3.heap.size w3 w')) (by kernel_rfl) ?_ (fun hHeld => ?_)
          · exact ⟨by exact Q0.out, by exact Q1.out, by exact Q2.out, by exact P0.out, by exact P1.out, by exact P2.out, by exact IR.out, by exact JR.out, by exact LR.out, HB.out.drew⟩
          refine heldT (i := 0) (d := 40) (v := ?_) rfl rfl (by kernel_rfl) (by kernel_rfl) (by kernel_rfl) (fun _ _ _ h => h) (by kernel_rfl) ?_ (by assumption) ?_
          rotate_left
          · (intro w hSw; (try dsimp only at hSw); go_simp; try with_reducible rfl)
          simp only [Act.put, List.setIfInBounds_toArray, List.set_cons_zero, List.set_cons_succ]
          refine heldT (i := 1) (d := 41) (v := ?_) rfl rfl (by kernel_rfl) (by kernel_rfl) (by kernel_rfl) (fun _ _ _ h => h) (by kernel_rfl) ?_ (by assumption) ?_
          rotate_left
          · (intro w hSw; (try dsimp only at hSw); go_simp; try with_reducible rfl)
          simp only [Act.put, List.setIfInBounds_toArray, List.set_cons_zero, List.set_cons_succ]
          refine heldT (i := 2) (d := 42) (v := ?_) rfl rfl (by kernel_rfl) (by kernel_rfl) (by kernel_rfl) (fun _ _ _ h => h) (by kernel_rfl) ?_ (by assumption) ?_
          rotate_left
          · (intro w hSw; (try dsimp only at hSw); go_simp; try with_reducible rfl)
          simp only [Act.put, List.setIfInBounds_toArray, List.set_cons_zero, List.set_cons_succ]
          refine heldT (i := 3) (d := 43) (v := ?_) rfl rfl (by kernel_rfl) (by kernel_rfl) (by kernel_rfl) (fun _ _ _ h => h) (by kernel_rfl) ?_ (by assumption) ?_
          rotate_left
          · (intro w hSw; (try dsimp only at hSw); go_simp; try with_reducible rfl)
          simp only [Act.put, List.setIfInBounds_toArray, List.set_cons_zero, List.set_cons_succ]
          refine wpAnyH_ready (rs := [4]) (by kernel_rfl) (by simp) ?_
          refine AllReadyH.cons rfl (fun K hK => ?_) AllReadyH.nil
          go_simp
          go_at_call 35
          go_split_ands
          refine (iSibOk_any _ _ _ vv _ _ _ (by assumption) hn1).mono ?_
          rintro e w6 ⟨rfl, hb⟩
          rw [hs]
          refine hK.out _ _ ?_ (fun hHeld => ?_)
          · go_split_ands
            exact ⟨cell_upC hb (by assumption), cell_upC hb (by assumption), cell_upC hb (by assumption), cell_upC hb (by assumption), cell_upC hb (by assumption), cell_upC hb (by assumption), Has.step (by assumption) hb, Has.step (by assumption) hb, HasS.step (by assumption) hb, Below.trans (by assumption) (hb.mono (Below.size (by assumption)))⟩
          clear hK K
          try simp only [Act.put, List.setIfInBounds_toArray, List.set_cons_zero, List.set_cons_succ]
          refine heldT (i := 5) (d := 45) (v := ?_) rfl rfl (by kernel_rfl) (by kernel_rfl) (by kernel_rfl) (fun _ _ _ h => h) (by kernel_rfl) ?_ (by assumption) ?_
          rotate_left
          · (intro w hSw; (try dsimp only at hSw); go_simp; try with_reducible rfl)
          simp only [Act.put, List.setIfInBounds_toArray, List.set_cons_zero, List.set_cons_succ]
          refine heldT (i := 6) (d := 46) (v := ?_) rfl rfl (by kernel_rfl) (by kernel_rfl) (by kernel_rfl) (fun _ _ _ h => h) (by kernel_rfl) ?_ (by assumption) ?_
          rotate_left
          · (intro w hSw; (try dsimp only at hSw); go_simp; try with_reducible rfl)
          simp only [Act.put, List.setIfInBounds_toArray, List.set_cons_zero, List.set_cons_succ]
          refine heldT (i := 7) (d := 47) (v := ?_) rfl rfl (by kernel_rfl) (by kernel_rfl) (by kernel_rfl) (fun _ _ _ h => h) (by kernel_rfl) ?_ (by assumption) ?_
          rotate_left
          · (intro w hSw; (try dsimp only at hSw); go_simp; try with_reducible rfl)
          simp only [Act.put, List.setIfInBounds_toArray, List.set_cons_zero, List.set_cons_succ]
          refine heldT (i := 8) (d := 48) (v := ?_) rfl rfl (by kernel_rfl) (by kernel_rfl) (by kernel_rfl) (fun _ _ _ h => h) (by kernel_rfl) ?_ (by assumption) ?_
          rotate_left
          · (intro w hSw; (try dsimp only at hSw); go_simp; try with_reducible rfl)
          simp only [Act.put, List.setIfInBounds_toArray, List.set_cons_zero, List.set_cons_succ]
          refine heldT (i := 9) (d := 49) (v := ?_) rfl rfl (by kernel_rfl) (by kernel_rfl) (by kernel_rfl) (fun _ _ _ h => h) (by kernel_rfl) ?_ (by assumption) ?_
          rotate_left
          · (intro w hSw; (try dsimp only at hSw); go_simp; try with_reducible rfl)
          simp only [Act.put, List.setIfInBounds_toArray, List.set_cons_zero, List.set_cons_succ]
          refine heldT (i := 10) (d := 50) (v := ?_) rfl rfl (by kernel_rfl) (by kernel_rfl) (by kernel_rfl) (fun _ _ _ h => h) (by kernel_rfl) ?_ (by assumption) ?_
          rotate_left
          · (intro w hSw; (try dsimp only at hSw); go_simp; try with_reducible rfl)
          simp only [Act.put, List.setIfInBounds_toArray, List.set_cons_zero, List.set_cons_succ]
          refine heldT (i := 11) (d := 51) (v := ?_) rfl rfl (by kernel_rfl) (by kernel_rfl) (by kernel_rfl) (fun _ _ _ h => h) (by kernel_rfl) ?_ (by assumption) ?_
          rotate_left
          · (intro w hSw; (try dsimp only at hSw); go_simp; try with_reducible rfl)
          simp only [Act.put, List.setIfInBounds_toArray, List.set_cons_zero, List.set_cons_succ]
          refine wpAnyH_ready (rs := [12]) (by kernel_rfl) (by simp) ?_
          refine AllReadyH.cons rfl (fun K hK => ?_) AllReadyH.nil
          go_simp
          go_at_call 36
          go_split_ands
          refine (lvKnown_any _ _ _ _ _ _ vv _ _ ks _ (by assumption) (by assumption) hn1 hNm VX.out (AL.out)).mono ?_
          rintro e w6 ⟨rfl, hb⟩
          rw [KX.out]
          refine hK.out _ _ ?_ (fun hHeld => ?_)
          · go_split_ands
            exact ⟨cell_upC hb (by assumption), cell_upC hb (by assumption), cell_upC hb (by assumption), cell_upC hb (by assumption), cell_upC hb (by assumption), cell_upC hb (by assumption), Has.step (by assumption) hb, Has.step (by assumption) hb, HasS.step (by assumption) hb, Below.trans (by assumption) (hb.mono (Below.size (by assumption)))⟩
          clear hK K
          try simp only [Act.put, List.setIfInBounds_toArray, List.set_cons_zero, List.set_cons_succ]
          refine heldT (i := 13) (d := 53) (v := ?_) rfl rfl (by kernel_rfl) (by kernel_rfl) (by kernel_rfl) (fun _ _ _ h => h) (by kernel_rfl) ?_ (by assumption) ?_
          rotate_left
          · (intro w hSw; (try dsimp only at hSw); go_simp; try with_reducible rfl)
          simp only [Act.put, List.setIfInBounds_toArray, List.set_cons_zero, List.set_cons_succ]
          refine heldT (i := 14) (d := 54) (v := ?_) rfl rfl (by kernel_rfl) (by kernel_rfl) (by kernel_rfl) (fun _ _ _ h => h) (by kernel_rfl) ?_ (by assumption) ?_
          rotate_left
          · (intro w hSw; (try dsimp only at hSw); go_simp; try with_reducible rfl)
          simp only [Act.put, List.setIfInBounds_toArray, List.set_cons_zero, List.set_cons_succ]
          refine heldT (i := 15) (d := 55) (v := ?_) rfl rfl (by kernel_rfl) (by kernel_rfl) (by kernel_rfl) (fun _ _ _ h => h) (by kernel_rfl) ?_ (by assumption) ?_
          rotate_left
          · (intro w hSw; (try dsimp only at hSw); go_simp; try with_reducible rfl)
          simp only [Act.put, List.setIfInBounds_toArray, List.set_cons_zero, List.set_cons_succ]
          refine heldT (i := 16) (d := 56) (v := ?_) rfl rfl (by kernel_rfl) (by kernel_rfl) (by kernel_rfl) (fun _ _ _ h => h) (by kernel_rfl) ?_ (by assumption) ?_
          rotate_left
          · (intro w hSw; (try dsimp only at hSw); go_simp; try with_reducible rfl)
          simp only [Act.put, List.setIfInBounds_toArray, List.set_cons_zero, List.set_cons_succ]
          refine heldT (i := 17) (d := 57) (v := ?_) rfl rfl (by kernel_rfl) (by kernel_rfl) (by kernel_rfl) (fun _ _ _ h => h) (by kernel_rfl) ?_ (by assumption) ?_
          rotate_left
          · (intro w hSw; (try dsimp only at hSw); go_simp; try with_reducible rfl)
          simp only [Act.put, List.setIfInBounds_toArray, List.set_cons_zero, List.set_cons_succ]
          refine heldT (i := 18) (d := 58) (v := ?_) rfl rfl (by kernel_rfl) (by kernel_rfl) (by kernel_rfl) (fun _ _ _ h => h) (by kernel_rfl) ?_ (by assumption) ?_
          rotate_left
          · (intro w hSw; (try dsimp only at hSw); go_simp; try with_reducible rfl)
          simp only [Act.put, List.setIfInBounds_toArray, List.set_cons_zero, List.set_cons_succ]
          refine heldT (i := 19) (d := 59) (v := ?_) rfl rfl (by kernel_rfl) (by kernel_rfl) (by kernel_rfl) (fun _ _ _ h => h) (by kernel_rfl) ?_ (by assumption) ?_
          rotate_left
          · (intro w hSw; (try dsimp only at hSw); go_simp; try with_reducible rfl)
          simp only [Act.put, List.setIfInBounds_toArray, List.set_cons_zero, List.set_cons_succ]
          refine heldT (i := 20) (d := 60) (v := ?_) rfl rfl (by kernel_rfl) (by kernel_rfl) (by kernel_rfl) (fun _ _ _ h => h) (by kernel_rfl) ?_ (by assumption) ?_
          rotate_left
          · (intro w hSw; (try dsimp only at hSw); go_simp; try with_reducible rfl)
          simp only [Act.put, List.setIfInBounds_toArray, List.set_cons_zero, List.set_cons_succ]
          refine heldT (i := 21) (d := 61) (v := ?_) rfl rfl (by kernel_rfl) (by kernel_rfl) (by kernel_rfl) (fun _ _ _ h => h) (by kernel_rfl) ?_ (by assumption) ?_
          rotate_left
          · (intro w hSw; (try dsimp only at hSw); go_simp; try with_reducible rfl)
          simp only [Act.put, List.setIfInBounds_toArray, List.set_cons_zero, List.set_cons_succ]
          refine heldT (i := 22) (d := 62) (v := ?_) rfl rfl (by kernel_rfl) (by kernel_rfl) (by kernel_rfl) (fun _ _ _ h => h) (by kernel_rfl) ?_ (by assumption) ?_
          rotate_left
          · (intro w hSw; (try dsimp only at hSw); go_simp; try with_reducible rfl)
          simp only [Act.put, List.setIfInBounds_toArray, List.set_cons_zero, List.set_cons_succ]
          refine heldT (i := 23) (d := 63) (v := ?_) rfl rfl (by kernel_rfl) (by kernel_rfl) (by kernel_rfl) (fun _ _ _ h => h) (by kernel_rfl) ?_ (by assumption) ?_
          rotate_left
          · (intro w hSw; (try dsimp only at hSw); go_simp; try with_reducible rfl)
          simp only [Act.put, List.setIfInBounds_toArray, List.set_cons_zero, List.set_cons_succ]
          refine heldT (i := 24) (d := 64) (v := ?_) rfl rfl (by kernel_rfl) (by kernel_rfl) (by kernel_rfl) (fun _ _ _ h => h) (by kernel_rfl) ?_ (by assumption) ?_
          rotate_left
          · (intro w hSw; (try dsimp only at hSw); go_simp; try with_reducible rfl)
          simp only [Act.put, List.setIfInBounds_toArray, List.set_cons_zero, List.set_cons_succ]
          refine heldT (i := 25) (d := 65) (v := ?_) rfl rfl (by kernel_rfl) (by kernel_rfl) (by kernel_rfl) (fun _ _ _ h => h) (by kernel_rfl) ?_ (by assumption) ?_
          rotate_left
          · (intro w hSw; (try dsimp only at hSw); go_simp; try with_reducible rfl)
          simp only [Act.put, List.setIfInBounds_toArray, List.set_cons_zero, List.set_cons_succ]
          refine heldT (i := 26) (d := 66) (v := ?_) rfl rfl (by kernel_rfl) (by kernel_rfl) (by kernel_rfl) (fun _ _ _ h => h) (by kernel_rfl) ?_ (by assumption) ?_
          rotate_left
          · (intro w hSw; (try dsimp only at hSw); go_simp; try with_reducible rfl)
          simp only [Act.put, List.setIfInBounds_toArray, List.set_cons_zero, List.set_cons_succ]
          refine wpAnyH_ready (rs := [27]) (by kernel_rfl) (by simp) ?_
          refine AllReadyH.cons rfl (fun K hK => ?_) AllReadyH.nil
          go_simp
          go_at_call 37
          go_split_ands
          refine (iSibCmp_any _ _ _ _ _ _ vv3 vv _ _ _ _ _ (by assumption) (by assumption) hn3 hn1).mono ?_
          rintro e w6 ⟨rfl, hb⟩
          rw [CX.out]
          refine hK.out _ _ ?_ (fun hHeld => ?_)
          · go_split_ands
            exact ⟨cell_upC hb (by assumption), cell_upC hb (by assumption), cell_upC hb (by assumption), cell_upC hb (by assumption), cell_upC hb (by assumption), cell_upC hb (by assumption), Has.step (by assumption) hb, Has.step (by assumption) hb, HasS.step (by assumption) hb, Below.trans (by assumption) (hb.mono (Below.size (by assumption)))⟩
          clear hK K
          try simp only [Act.put, List.setIfInBounds_toArray, List.set_cons_zero, List.set_cons_succ]
          refine heldT (i := 28) (d := 68) (v := ?_) rfl rfl (by kernel_rfl) (by kernel_rfl) (by kernel_rfl) (fun _ _ _ h => h) (by kernel_rfl) ?_ (by assumption) ?_
          rotate_left
          · (intro w hSw; (try dsimp only at hSw); go_simp; try with_reducible rfl)
          simp only [Act.put, List.setIfInBounds_toArray, List.set_cons_zero, List.set_cons_succ]
          refine heldT (i := 29) (d := 69) (v := ?_) rfl rfl (by kernel_rfl) (by kernel_rfl) (by kernel_rfl) (fun _ _ _ h => h) (by kernel_rfl) ?_ (by assumption) ?_
          rotate_left
          · (intro w hSw; (try dsimp only at hSw); go_simp; try with_reducible rfl)
          simp only [Act.put, List.setIfInBounds_toArray, List.set_cons_zero, List.set_cons_succ]
          refine heldT (i := 30) (d := 70) (v := ?_) rfl rfl (by kernel_rfl) (by kernel_rfl) (by kernel_rfl) (fun _ _ _ h => h) (by kernel_rfl) ?_ (by assumption) ?_
          rotate_left
          · (intro w hSw; (try dsimp only at hSw); go_simp; try with_reducible rfl)
          simp only [Act.put, List.setIfInBounds_toArray, List.set_cons_zero, List.set_cons_succ]
          refine wpAnyH_done (by kernel_rfl) ?_ _

          go_split_ands
          have HBn := Lib.hid (show Below w3.heap.size w3 w6 by assumption)
          go_wp2
          go_roundw
          case rel => exact ⟨p + 1 + 1, by omega, by go_num, HBn⟩
          case measure => simp [intOf]; omega
      · obtain rfl : N = k := by omega
        have B4 := Lib.hid (B3.out.trans (HB.out.mono B3.out.size))
        have I4 := Lib.hid (I3.out.step HB.out)
        clear HB I3 B3
        obtain ⟨q, hq, hqN⟩ : ∃ q : Nat, Int.tmod (n' : Int) (N : Int) = (q : Int) ∧ q < N := ⟨n' % N, by rw [Int.tmod_eq_emod_of_nonneg (by omega)]; rfl, Nat.mod_lt _ N1⟩
        have N0 : ¬ (N : Int) = 0 := by omega
        have j1 : (q : Int) < (N : Int) := by omega
        have j2 : (0 : Int) ≤ (q : Int) := by omega
        have j3 : (q : Int) ≤ (N : Int) := by omega
        have j4 : (q : Int) + 1 ≤ (N : Int) := by omega
        have j5 : (0 : Int) ≤ (q : Int) + 1 := by omega
        have j6 : q ≤ c1 := by omega
        have j9 : IntKind.i64.wrap ((q : Int) + 1) = (q : Int) + 1 := IntWalk.i64_in _ (by omega)
        have j10 : ((q : Int) + 1).toNat = q + 1 := by omega
        have j7 : q + 1 ≤ c1 := by omega
        have j8 : (N : Int) ≤ (c1 : Int) := by omega
        obtain ⟨ad, had⟩ : ∃ ad, (if c1 = q + 1 then some (⟨gg, 0, none⟩ : Addr) else some ⟨gg, (q + 1) * 3, none⟩) = some ad := by split <;> exact ⟨_, rfl⟩
        have AD := Lib.hid had
        have HL4 := Lib.hid I4.out.len
        go_wp2
        have E5 : Hid ((wr.drew.alloc (.cells #[] 31)).ownsRow wr.heap.size 31 3 (.slice (some ⟨wr.heap.size, 0, none⟩) 0 0) 0 (flat [])) := Lib.hid (World.ownsRow_lit wr.drew #[] 0 (Nat.le_refl _) (by unfold maxLen; omega) rfl)
        have B5 : Hid (Below wr.heap.size wr (wr.drew.alloc (.cells #[] 31))) := Lib.hid (((Below.refl wr.heap.size wr).drew).alloc (Nat.le_refl _) _)
        refine wp_region_held_drew (S := (fun _ => True)) (by kernel_rfl) ?_ (fun hHeld => ?_)
        · trivial
        refine heldT (i := 1) (d := 77) (v := ?_) rfl rfl (by kernel_rfl) (by kernel_rfl) (by kernel_rfl) (fun _ _ _ h => h) (by kernel_rfl) ?_ (by assumption) ?_
        rotate_left
        · (intro w hSw; (try dsimp only at hSw); go_simp; try with_reducible rfl)
        simp only [Act.put, List.setIfInBounds_toArray, List.set_cons_zero, List.set_cons_succ]
        refine heldT (i := 2) (d := 78) (v := ?_) rfl rfl (by kernel_rfl) (by kernel_rfl) (by kernel_rfl) (fun _ _ _ h => h) (by kernel_rfl) ?_ (by assumption) ?_
        rotate_left
        · (intro w hSw; (try dsimp only at hSw); go_simp; try with_reducible rfl)
        simp only [Act.put, List.setIfInBounds_toArray, List.set_cons_zero, List.set_cons_succ]
        refine heldT (i := 3) (d := 79) (v := ?_) rfl rfl (by kernel_rfl) (by kernel_rfl) (by kernel_rfl) (fun _ _ _ h => h) (by kernel_rfl) ?_ (by assumption) ?_
        rotate_left
        · (intro w hSw; (try dsimp only at hSw); go_simp; try with_reducible rfl)
        simp only [Act.put, List.setIfInBounds_toArray, List.set_cons_zero, List.set_cons_succ]
        refine heldT (i := 5) (d := 81) (v := ?_) rfl rfl (by kernel_rfl) (by kernel_rfl) (by kernel_rfl) (fun _ _ _ h => h) (by kernel_rfl) ?_ (by assumption) ?_
        rotate_left
        · (intro w hSw; (try dsimp only at hSw); go_simp; try with_reducible rfl)
        simp only [Act.put, List.setIfInBounds_toArray, List.set_cons_zero, List.set_cons_succ]
        refine heldT (i := 6) (d := 82) (v := ?_) rfl rfl (by kernel_rfl) (by kernel_rfl) (by kernel_rfl) (fun _ _ _ h => h) (by kernel_rfl) ?_ (by assumption) ?_
        rotate_left
        · (intro w hSw; (try dsimp only at hSw); go_simp; try with_reducible rfl)
        simp only [Act.put, List.setIfInBounds_toArray, List.set_cons_zero, List.set_cons_succ]
        refine heldT (i := 7) (d := 83) (v := ?_) rfl rfl (by kernel_rfl) (by kernel_rfl) (by kernel_rfl) (fun _ _ _ h => h) (by kernel_rfl) ?_ (by assumption) ?_
        rotate_left
        · (intro w hSw; (try dsimp only at hSw); go_simp; try with_reducible rfl)
        simp only [Act.put, List.setIfInBounds_toArray, List.set_cons_zero, List.set_cons_succ]
        refine heldT (i := 8) (d := 84) (v := ?_) rfl rfl (by kernel_rfl) (by kernel_rfl) (by kernel_rfl) (fun _ _ _ h => h) (by kernel_rfl) ?_ (by assumption) ?_
        rotate_left
        · (intro w hSw; (try dsimp only at hSw); go_simp; try with_reducible rfl)
        simp only [Act.put, List.setIfInBounds_toArray, List.set_cons_zero, List.set_cons_succ]
        refine wpAnyH_ready (rs := [0]) (by kernel_rfl) (by simp) ?_
        refine AllReadyH.cons rfl (fun K hK => ?_) AllReadyH.nil
        go_simp
        refine hK.out _ _ ?_ (fun hHeld => ?_)
        · trivial
        clear hK K
        try simp only [Act.put, List.setIfInBounds_toArray, List.set_cons_zero, List.set_cons_succ]
        refine wpAnyH_ready (rs := [4]) (by kernel_rfl) (by simp) ?_
        refine AllReadyH.cons rfl (fun K hK => ?_) AllReadyH.nil
        rw [if_pos (by kernel_rfl)]
        refine appK_row 80 rfl (.tmp 76) (.tmp 79) rfl _ wr.heap.size B5.out.size _ 0 [] rfl E5.out (by omega) ⟨gg, 0, none⟩ q _ (ks.take q) rfl (by omega) (by rw [List.length_take, HL4.out]; omega) (((I4.out.below B5.out (Nat.le_refl _)).pre (by omega)).news) ?_
        intro v1 w5 ho1 hb1 hs1 hf1
        have O1 : Hid (w5.ownsRow wr.heap.size 31 3 v1 q (flat (ks.take q))) := Lib.hid (by simpa using ho1)
        have B6 := Lib.hid (B5.out.trans hb1)
        clear ho1 hb1 hf1
        refine hK.out _ _ ?_ (fun hHeld => ?_)
        · trivial
        clear hK K
        try simp only [Act.put, List.setIfInBounds_toArray, List.set_cons_zero, List.set_cons_succ]
        refine wpAnyH_ready (rs := [9]) (by kernel_rfl) (by simp) ?_
        refine AllReadyH.cons rfl (fun K hK => ?_) AllReadyH.nil
        rw [if_pos (by kernel_rfl)]
        refine appK_row 85 rfl (.tmp 80) (.tmp 84) rfl _ wr.heap.size B6.out.size _ q (ks.take q) rfl O1.out (by omega) ad (N - (q + 1)) _ (ks.drop (q + 1)) rfl (by omega) (by rw [List.length_drop, HL4.out]) ((I4.out.below B6.out (Nat.le_refl _)).postAt (k := q + 1) (by omega) hcap AD.out) ?_
        intro v2 w6 ho2 hb2 hs2 hf2
        have O2 := Lib.hid ho2
        have B7 := Lib.hid (B6.out.trans hb2)
        clear ho2 hb2 hf2
        refine hK.out _ _ ?_ (fun hHeld => ?_)
        · trivial
        clear hK K
        try simp only [Act.put, List.setIfInBounds_toArray, List.set_cons_zero, List.set_cons_succ]
        refine heldT (i := 10) (d := 9) (v := ?_) rfl rfl (by kernel_rfl) (by kernel_rfl) (by kernel_rfl) (fun _ _ _ h => h) (by kernel_rfl) ?_ (by assumption) ?_
        rotate_left
        · (intro w hSw; (try dsimp only at hSw); go_simp; try with_reducible rfl)
        simp only [Act.put, List.setIfInBounds_toArray, List.set_cons_zero, List.set_cons_succ]
        refine wpAnyH_done (by kernel_rfl) ?_ _
        go_split_ands
        obtain ⟨A2, c2, rfl⟩ := own_valS O2.out
        have I6 := Lib.hid (I4.out.step B7.out)
        have HL6 := Lib.hid (hasS_row O2.out (fun k hk => I6.out.2 k ((List.mem_append.1 hk).elim List.mem_of_mem_take List.mem_of_mem_drop)))
        obtain ⟨z, hz'⟩ : ∃ z, decide ((1 : Int) < (N : Int)) = z := ⟨_, rfl⟩
        have hz : sibsOk (sbs (ks.take q ++ ks.drop (q + 1))) = z := by
          rw [sibsOk_less K1.out (less_sub ks q), ← hz', decide_eq_decide, sbs_len, List.length_append, List.length_take, List.length_drop, HL4.out]
          omega
        have HZ := Lib.hid hz
        have B8 := Lib.hid (B4.out.trans (B7.out.mono B4.out.size))
        have hM : q + (N - (q + 1)) ≤ maxLen := by unfold maxLen; omega
        obtain ⟨M, hMe⟩ : ∃ M, q + (N - (q + 1)) = M := ⟨_, rfl⟩
        rw [hMe] at HL6 hM ⊢
        clear hMe O1 O2 B5 E5 B6 B7 B4 hq hz
        obtain ⟨b', off', A1, n1, d1, vv, g, t, e, hbl, c0, c1', c2', _, _, _, hx⟩ := I6.out.at_ hqN
        simp only [Option.some.injEq, Addr.mk.injEq, and_true] at e
        obtain ⟨rfl, rfl⟩ := e
        rw [Nat.zero_add] at c0 c1' c2'
        have Q0 := Lib.hid c0
        have Q1 := Lib.hid c1'
        have Q2 := Lib.hid c2'
        have TW : Hid (sibsOk (sbs (ks ++ [⟨A1, n1, d1, ⟨vv, g, t⟩⟩])) = false) := Lib.hid (by rw [sbs_append]; exact sibsOk_twice (List.mem_of_getElem? (sbs_at hx.out)))
        have MX : Hid ((⟨A1, n1, d1, ⟨vv, g, t⟩⟩ : Kv) ∈ ks) := Lib.hid (List.mem_of_getElem? hx.out)
        clear c0 c1' c2' I4
        go_wp2
        refine wp_region_held_drew (S := (fun w' => w'.cell? ⟨gg, q * 3, none⟩ = some (.slice A1 n1 d1) ∧ w'.cell? ⟨gg, q * 3 + 1, none⟩ = some (.bool g) ∧ w'.cell? ⟨gg, q * 3 + 2, none⟩ = some (.string t) ∧ Below w6.heap.size w6 w')) (by kernel_rfl) ?_ (fun hHeld => ?_)
        · exact ⟨by exact Q0.out, by exact Q1.out, by exact Q2.out, (Below.refl _ _).drew⟩
        refine heldT (i := 0) (d := 86) (v := ?_) rfl rfl (by kernel_rfl) (by kernel_rfl) (by kernel_rfl) (fun _ _ _ h => h) (by kernel_rfl) ?_ (by assumption) ?_
        rotate_left
        · (intro w hSw; (try dsimp only at hSw); go_simp; try with_reducible rfl)
        simp only [Act.put, List.setIfInBounds_toArray, List.set_cons_zero, List.set_cons_succ]
        refine heldT (i := 2) (d := 88) (v := ?_) rfl rfl (by kernel_rfl) (by kernel_rfl) (by kernel_rfl) (fun _ _ _ h => h) (by kernel_rfl) ?_ (by assumption) ?_
        rotate_left
        · (intro w hSw; (try dsimp only at hSw); go_simp; try with_reducible rfl)
        simp only [Act.put, List.setIfInBounds_toArray, List.set_cons_zero, List.set_cons_succ]
        refine heldT (i := 3) (d := 89) (v := ?_) rfl rfl (by kernel_rfl) (by kernel_rfl) (by kernel_rfl) (fun _ _ _ h => h) (by kernel_rfl) ?_ (by assumption) ?_
        rotate_left
        · (intro w hSw; (try dsimp only at hSw); go_simp; try with_reducible rfl)
        simp only [Act.put, List.setIfInBounds_toArray, List.set_cons_zero, List.set_cons_succ]
        refine heldT (i := 4) (d := 90) (v := ?_) rfl rfl (by kernel_rfl) (by kernel_rfl) (by kernel_rfl) (fun _ _ _ h => h) (by kernel_rfl) ?_ (by assumption) ?_
        rotate_left
        · (intro w hSw; (try dsimp only at hSw); go_simp; try with_reducible rfl)
        simp only [Act.put, List.setIfInBounds_toArray, List.set_cons_zero, List.set_cons_succ]
        refine wpAnyH_ready (rs := [1]) (by kernel_rfl) (by simp) ?_
        refine AllReadyH.cons rfl (fun K hK => ?_) AllReadyH.nil
        go_simp
        go_at_call 31
        refine (iSibsOk_any A2 M c2 (ks.take q ++ ks.drop (q + 1)) _ (by exact HL6.out) hM).mono ?_
        rintro e w7 ⟨rfl, hb⟩
        rw [HZ.out]
        have B9 := Lib.hid (((Below.refl w6.heap.size w6).drew).trans hb)
        have I7 := Lib.hid (I6.out.step B9.out)
        have R0 := Lib.hid (cell_upC B9.out Q0.out)
        have R1 := Lib.hid (cell_upC B9.out Q1.out)
        have R2 := Lib.hid (cell_upC B9.out Q2.out)
        have HBX := Lib.hid (Below.refl w7.heap.size w7)
        refine hK.out _ _ ?_ (fun hHeld => ?_)
        · go_split_ands
          exact ⟨cell_upC hb (by assumption), cell_upC hb (by assumption), cell_upC hb (by assumption), Below.trans (by assumption) (hb.mono (Below.size (by assumption)))⟩
        clear hK K
        try simp only [Act.put, List.setIfInBounds_toArray, List.set_cons_zero, List.set_cons_succ]
        refine heldT (i := 5) (d := 91) (v := ?_) rfl rfl (by kernel_rfl) (by kernel_rfl) (by kernel_rfl) (fun _ _ _ h => h) (by kernel_rfl) ?_ (by assumption) ?_
        rotate_left
        · (intro w hSw; (try dsimp only at hSw); go_simp; try with_reducible rfl)
        simp only [Act.put, List.setIfInBounds_toArray, List.set_cons_zero, List.set_cons_succ]
        refine heldT (i := 6) (d := 92) (v := ?_) rfl rfl (by kernel_rfl) (by kernel_rfl) (by kernel_rfl) (fun _ _ _ h => h) (by kernel_rfl) ?_ (by assumption) ?_
        rotate_left
        · (intro w hSw; (try dsimp only at hSw); go_simp; try with_reducible rfl)
        simp only [Act.put, List.setIfInBounds_toArray, List.set_cons_zero, List.set_cons_succ]
        refine heldT (i := 8) (d := 94) (v := ?_) rfl rfl (by kernel_rfl) (by kernel_rfl) (by kernel_rfl) (fun _ _ _ h => h) (by kernel_rfl) ?_ (by assumption) ?_
        rotate_left
        · (intro w hSw; (try dsimp only at hSw); go_simp; try with_reducible rfl)
        simp only [Act.put, List.setIfInBounds_toArray, List.set_cons_zero, List.set_cons_succ]
        refine heldT (i := 10) (d := 96) (v := ?_) rfl rfl (by kernel_rfl) (by kernel_rfl) (by kernel_rfl) (fun _ _ _ h => h) (by kernel_rfl) ?_ (by assumption) ?_
        rotate_left
        · (intro w hSw; (try dsimp only at hSw); go_simp; try with_reducible rfl)
        simp only [Act.put, List.setIfInBounds_toArray, List.set_cons_zero, List.set_cons_succ]
        refine heldT (i := 11) (d := 97) (v := ?_) rfl rfl (by kernel_rfl) (by kernel_rfl) (by kernel_rfl) (fun _ _ _ h => h) (by kernel_rfl) ?_ (by assumption) ?_
        rotate_left
        · (intro w hSw; (try dsimp only at hSw); go_simp; try with_reducible rfl)
        simp only [Act.put, List.setIfInBounds_toArray, List.set_cons_zero, List.set_cons_succ]
        refine heldT (i := 12) (d := 98) (v := ?_) rfl rfl (by kernel_rfl) (by kernel_rfl) (by kernel_rfl) (fun _ _ _ h => h) (by kernel_rfl) ?_ (by assumption) ?_
        rotate_left
        · (intro w hSw; (try dsimp only at hSw); go_simp; try with_reducible rfl)
        simp only [Act.put, List.setIfInBounds_toArray, List.set_cons_zero, List.set_cons_succ]
        refine heldT (i := 13) (d := 99) (v := ?_) rfl rfl (by kernel_rfl) (by kernel_rfl) (by kernel_rfl) (fun _ _ _ h => h) (by kernel_rfl) ?_ (by assumption) ?_
        rotate_left
        · (intro w hSw; (try dsimp only at hSw); go_simp; try with_reducible rfl)
        simp only [Act.put, List.setIfInBounds_toArray, List.set_cons_zero, List.set_cons_succ]
        refine wpAnyH_ready (rs := [7, 14]) (by kernel_rfl) (by simp) ?_
        refine AllReadyH.cons rfl (fun K hK => ?_) (AllReadyH.cons rfl (fun K hK => ?_) AllReadyH.nil)
        · go_simp
          have O7 : Hid ((w7.alloc (.cells #[] 31)).ownsRow w7.heap.size 31 3 (.slice (some ⟨w7.heap.size, 0, none⟩) 0 0) 0 (flat [])) := Lib.hid (World.ownsRow_lit w7 #[] 0 HBX.out.size (by unfold maxLen; omega) rfl)
          have hq7 : w7.heap.size < (w7.alloc (.cells #[] 31)).heap.size := by simp
          replace HBX := Lib.hid (HBX.out.alloc HBX.out.size (.cells #[] 31))
          obtain ⟨Y1, hY1⟩ : ∃ Y, w7.alloc (.cells #[] 31) = Y := ⟨_, rfl⟩
          rw [hY1] at O7 hq7 HBX ⊢
          refine hK.out _ _ ?_ (fun hHeld => ?_)
          · exact ⟨cell_upC HBX.out R0.out, cell_upC HBX.out R1.out, cell_upC HBX.out R2.out, B9.out.trans (HBX.out.mono B9.out.size)⟩
          clear hK K
          try simp only [Act.put, List.setIfInBounds_toArray, List.set_cons_zero, List.set_cons_succ]
          refine wpAnyH_ready (rs := [9, 14]) (by kernel_rfl) (by simp) ?_
          refine AllReadyH.cons rfl (fun K hK => ?_) (AllReadyH.cons rfl (fun K hK => ?_) AllReadyH.nil)
          · rw [if_pos (by kernel_rfl)]
            refine appK_row 95 rfl (.tmp 93) (.tmp 94) rfl _ w7.heap.size HBX.out.size (.slice (some ⟨w7.heap.size, 0, none⟩) 0 0) 0 [] rfl O7.out (by omega) ⟨gg, 0, none⟩ N _ ks rfl (by omega) HL4.out (Sibs.news (I7.out.step HBX.out)) ?_
            intro v3 Y2 ho hb1 hs hf
            have O9 : Hid (Y2.ownsRow w7.heap.size 31 3 v3 N (flat ks)) := Lib.hid (by simpa using ho)
            replace HBX := Lib.hid (HBX.out.trans hb1)
            clear ho hb1 hf
            refine hK.out _ _ ?_ (fun hHeld => ?_)
            · exact ⟨cell_upC HBX.out R0.out, cell_upC HBX.out R1.out, cell_upC HBX.out R2.out, B9.out.trans (HBX.out.mono B9.out.size)⟩
            clear hK K
            try simp only [Act.put, List.setIfInBounds_toArray, List.set_cons_zero, List.set_cons_succ]
            refine wpAnyH_ready (rs := [14]) (by kernel_rfl) (by simp) ?_
            refine AllReadyH.cons rfl (fun K hK => ?_) AllReadyH.nil
            go_simp
            have NW : Hid (∀ j u, (flat [(⟨A1, n1, d1, ⟨vv, g, t⟩⟩ : Kv)])[j]? = some u → (Y2.alloc (.cells #[.slice A1 n1 d1, .bool g, .string t] 31)).cell? ((⟨Y2.heap.size, 0, none⟩ : Addr).add j) = some u) := Lib.hid (cell_three_new Y2 _ _ _ _)
            have hq14 : Y2.heap.size < (Y2.alloc (.cells #[.slice A1 n1 d1, .bool g, .string t] 31)).heap.size := by simp
            replace O9 := Lib.hid (O9.out.alloc (.cells #[.slice A1 n1 d1, .bool g, .string t] 31))
            replace HBX := Lib.hid (HBX.out.alloc HBX.out.size (.cells #[.slice A1 n1 d1, .bool g, .string t] 31))
            obtain ⟨Y3, hY3⟩ : ∃ Y, Y2.alloc (.cells #[.slice A1 n1 d1, .bool g, .string t] 31) = Y := ⟨_, rfl⟩
            rw [hY3] at NW hq14 HBX O9 ⊢
            refine hK.out _ _ ?_ (fun hHeld => ?_)
            · exact ⟨cell_upC HBX.out R0.out, cell_upC HBX.out R1.out, cell_upC HBX.out R2.out, B9.out.trans (HBX.out.mono B9.out.size)⟩
            clear hK K
            try simp only [Act.put, List.setIfInBounds_toArray, List.set_cons_zero, List.set_cons_succ]
            refine wpAnyH_ready (rs := [15]) (by kernel_rfl) (by simp) ?_
            refine AllReadyH.cons rfl (fun K hK => ?_) AllReadyH.nil
            rw [if_pos (by kernel_rfl)]
            refine appK_row 101 rfl (.tmp 95) (.tmp 100) rfl _ w7.heap.size HBX.out.size _ N ks rfl O9.out (by omega) _ 1 1 [⟨A1, n1, d1, ⟨vv, g, t⟩⟩] rfl (by omega) rfl NW.out ?_
            intro v4 Y4 ho hb1 hs hf
            obtain ⟨A4, c4, rfl⟩ := own_valS ho
            replace HBX := Lib.hid (HBX.out.trans hb1)
            have HT := Lib.hid (hasS_row ho (fun k hk => (I7.out.step HBX.out).2 k ((List.mem_append.1 hk).elim id (fun h => by rw [List.mem_singleton.1 h]; exact MX.out))))
            clear ho hb1 hf
            refine hK.out _ _ ?_ (fun hHeld => ?_)
            · exact ⟨cell_upC HBX.out R0.out, cell_upC HBX.out R1.out, cell_upC HBX.out R2.out, B9.out.trans (HBX.out.mono B9.out.size)⟩
            clear hK K
            try simp only [Act.put, List.setIfInBounds_toArray, List.set_cons_zero, List.set_cons_succ]
            refine wpAnyH_ready (rs := [16]) (by kernel_rfl) (by simp) ?_
            refine AllReadyH.cons rfl (fun K hK => ?_) AllReadyH.nil
            go_simp
            go_at_call 31
            refine (iSibsOk_any A4 (N + 1) c4 (ks ++ [⟨A1, n1, d1, ⟨vv, g, t⟩⟩]) _ HT.out (by unfold maxLen; omega)).mono ?_
            rintro e w8 ⟨rfl, hb⟩
            rw [TW.out]
            replace HBX := Lib.hid (HBX.out.trans (hb.mono HBX.out.size))
            refine hK.out _ _ ?_ (fun hHeld => ?_)
            · exact ⟨cell_upC HBX.out R0.out, cell_upC HBX.out R1.out, cell_upC HBX.out R2.out, B9.out.trans (HBX.out.mono B9.out.size)⟩
            clear hK K
            try simp only [Act.put, List.setIfInBounds_toArray, List.set_cons_zero, List.set_cons_succ]
            refine heldT (i := 17) (d := 103) (v := ?_) rfl rfl (by kernel_rfl) (by kernel_rfl) (by kernel_rfl) (fun _ _ _ h => h) (by kernel_rfl) ?_ (by assumption) ?_
            rotate_left
            · (intro w hSw; (try dsimp only at hSw); go_simp; try with_reducible rfl)
            simp only [Act.put, List.setIfInBounds_toArray, List.set_cons_zero, List.set_cons_succ]
            refine heldT (i := 18) (d := 104) (v := ?_) rfl rfl (by kernel_rfl) (by kernel_rfl) (by kernel_rfl) (fun _ _ _ h => h) (by kernel_rfl) ?_ (by assumption) ?_
            rotate_left
            · (intro w hSw; (try dsimp only at hSw); go_simp; try with_reducible rfl)
            simp only [Act.put, List.setIfInBounds_toArray, List.set_cons_zero, List.set_cons_succ]
            refine heldT (i := 19) (d := 4) (v := ?_) rfl rfl (by kernel_rfl) (by kernel_rfl) (by kernel_rfl) (fun _ _ _ h => h) (by kernel_rfl) ?_ (by assumption) ?_
            rotate_left
            · (intro w hSw; (try dsimp only at hSw); go_simp; try with_reducible rfl)
            simp only [Act.put, List.setIfInBounds_toArray, List.set_cons_zero, List.set_cons_succ]
            refine wpAnyH_done (by kernel_rfl) ?_ _
            go_wp2
            go_ret
            exact ⟨rfl, B8.out.trans ((B9.out.trans (HBX.out.mono B9.out.size)).mono B8.out.size)⟩
          · go_simp
            have NW : Hid (∀ j u, (flat [(⟨A1, n1, d1, ⟨vv, g, t⟩⟩ : Kv)])[j]? = some u → (Y1.alloc (.cells #[.slice A1 n1 d1, .bool g, .string t] 31)).cell? ((⟨Y1.heap.size, 0, none⟩ : Addr).add j) = some u) := Lib.hid (cell_three_new Y1 _ _ _ _)
            have hq14 : Y1.heap.size < (Y1.alloc (.cells #[.slice A1 n1 d1, .bool g, .string t] 31)).heap.size := by simp
            replace O7 := Lib.hid (O7.out.alloc (.cells #[.slice A1 n1 d1, .bool g, .string t] 31))
            replace HBX := Lib.hid (HBX.out.alloc HBX.out.size (.cells #[.slice A1 n1 d1, .bool g, .string t] 31))
            obtain ⟨Y2, hY2⟩ : ∃ Y, Y1.alloc (.cells #[.slice A1 n1 d1, .bool g, .string t] 31) = Y := ⟨_, rfl⟩
            rw [hY2] at NW hq14 HBX O7 ⊢
            refine hK.out _ _ ?_ (fun hHeld => ?_)
            · exact ⟨cell_upC HBX.out R0.out, cell_upC HBX.out R1.out, cell_upC HBX.out R2.out, B9.out.trans (HBX.out.mono B9.out.size)⟩
            clear hK K
            try simp only [Act.put, List.setIfInBounds_toArray, List.set_cons_zero, List.set_cons_succ]
            refine wpAnyH_ready (rs := [9]) (by kernel_rfl) (by simp) ?_
            refine AllReadyH.cons rfl (fun K hK => ?_) AllReadyH.nil
            rw [if_pos (by kernel_rfl)]
            refine appK_row 95 rfl (.tmp 93) (.tmp 94) rfl _ w7.heap.size HBX.out.size (.slice (some ⟨w7.heap.size, 0, none⟩) 0 0) 0 [] rfl O7.out (by omega) ⟨gg, 0, none⟩ N _ ks rfl (by omega) HL4.out (Sibs.news (I7.out.step HBX.out)) ?_
            intro v3 Y3 ho hb1 hs hf
            have O9 : Hid (Y3.ownsRow w7.heap.size 31 3 v3 N (flat ks)) := Lib.hid (by simpa using ho)
            replace NW := Lib.hid (newsKeep (hf _ hq14 (by simp [Value.ownBlock]; omega)) NW.out)
            replace HBX := Lib.hid (HBX.out.trans hb1)
            clear ho hb1 hf
            refine hK.out _ _ ?_ (fun hHeld => ?_)
            · exact ⟨cell_upC HBX.out R0.out, cell_upC HBX.out R1.out, cell_upC HBX.out R2.out, B9.out.trans (HBX.out.mono B9.out.size)⟩
            clear hK K
            try simp only [Act.put, List.setIfInBounds_toArray, List.set_cons_zero, List.set_cons_succ]
            refine wpAnyH_ready (rs := [15]) (by kernel_rfl) (by simp) ?_
            refine AllReadyH.cons rfl (fun K hK => ?_) AllReadyH.nil
            rw [if_pos (by kernel_rfl)]
            refine appK_row 101 rfl (.tmp 95) (.tmp 100) rfl _ w7.heap.size HBX.out.size _ N ks rfl O9.out (by omega) _ 1 1 [⟨A1, n1, d1, ⟨vv, g, t⟩⟩] rfl (by omega) rfl NW.out ?_
            intro v4 Y4 ho hb1 hs hf
            obtain ⟨A4, c4, rfl⟩ := own_valS ho
            replace HBX := Lib.hid (HBX.out.trans hb1)
            have HT := Lib.hid (hasS_row ho (fun k hk => (I7.out.step HBX.out).2 k ((List.mem_append.1 hk).elim id (fun h => by rw [List.mem_singleton.1 h]; exact MX.out))))
            clear ho hb1 hf
            refine hK.out _ _ ?_ (fun hHeld => ?_)
            · exact ⟨cell_upC HBX.out R0.out, cell_upC HBX.out R1.out, cell_upC HBX.out R2.out, B9.out.trans (HBX.out.mono B9.out.size)⟩
            clear hK K
            try simp only [Act.put, List.setIfInBounds_toArray, List.set_cons_zero, List.set_cons_succ]
            refine wpAnyH_ready (rs := [16]) (by kernel_rfl) (by simp) ?_
            refine AllReadyH.cons rfl (fun K hK => ?_) AllReadyH.nil
            go_simp
            go_at_call 31
            refine (iSibsOk_any A4 (N + 1) c4 (ks ++ [⟨A1, n1, d1, ⟨vv, g, t⟩⟩]) _ HT.out (by unfold maxLen; omega)).mono ?_
            rintro e w8 ⟨rfl, hb⟩
            rw [TW.out]
            replace HBX := Lib.hid (HBX.out.trans (hb.mono HBX.out.size))
            refine hK.out _ _ ?_ (fun hHeld => ?_)
            · exact ⟨cell_upC HBX.out R0.out, cell_upC HBX.out R1.out, cell_upC HBX.out R2.out, B9.out.trans (HBX.out.mono B9.out.size)⟩
            clear hK K
            try simp only [Act.put, List.setIfInBounds_toArray, List.set_cons_zero, List.set_cons_succ]
            refine heldT (i := 17) (d := 103) (v := ?_) rfl rfl (by kernel_rfl) (by kernel_rfl) (by kernel_rfl) (fun _ _ _ h => h) (by kernel_rfl) ?_ (by assumption) ?_
            rotate_left
            · (intro w hSw; (try dsimp only at hSw); go_simp; try with_reducible rfl)
            simp only [Act.put, List.setIfInBounds_toArray, List.set_cons_zero, List.set_cons_succ]
            refine heldT (i := 18) (d := 104) (v := ?_) rfl rfl (by kernel_rfl) (by kernel_rfl) (by kernel_rfl) (fun _ _ _ h => h) (by kernel_rfl) ?_ (by assumption) ?_
            rotate_left
            · (intro w hSw; (try dsimp only at hSw); go_simp; try with_reducible rfl)
            simp only [Act.put, List.setIfInBounds_toArray, List.set_cons_zero, List.set_cons_succ]
            refine heldT (i := 19) (d := 4) (v := ?_) rfl rfl (by kernel_rfl) (by kernel_rfl) (by kernel_rfl) (fun _ _ _ h => h) (by kernel_rfl) ?_ (by assumption) ?_
            rotate_left
            · (intro w hSw; (try dsimp only at hSw); go_simp; try with_reducible rfl)
            simp only [Act.put, List.setIfInBounds_toArray, List.set_cons_zero, List.set_cons_succ]
            refine wpAnyH_done (by kernel_rfl) ?_ _
            go_wp2
            go_ret
            exact ⟨rfl, B8.out.trans ((B9.out.trans (HBX.out.mono B9.out.size)).mono B8.out.size)⟩
        · go_simp
          have NW : Hid (∀ j u, (flat [(⟨A1, n1, d1, ⟨vv, g, t⟩⟩ : Kv)])[j]? = some u → (w7.alloc (.cells #[.slice A1 n1 d1, .bool g, .string t] 31)).cell? ((⟨w7.heap.size, 0, none⟩ : Addr).add j) = some u) := Lib.hid (cell_three_new w7 _ _ _ _)
          have hq14 : w7.heap.size < (w7.alloc (.cells #[.slice A1 n1 d1, .bool g, .string t] 31)).heap.size := by simp
          replace HBX := Lib.hid (HBX.out.alloc HBX.out.size (.cells #[.slice A1 n1 d1, .bool g, .string t] 31))
          obtain ⟨Y1, hY1⟩ : ∃ Y, w7.alloc (.cells #[.slice A1 n1 d1, .bool g, .string t] 31) = Y := ⟨_, rfl⟩
          rw [hY1] at NW hq14 HBX ⊢
          refine hK.out _ _ ?_ (fun hHeld => ?_)
          · exact ⟨cell_upC HBX.out R0.out, cell_upC HBX.out R1.out, cell_upC HBX.out R2.out, B9.out.trans (HBX.out.mono B9.out.size)⟩
          clear hK K
          try simp only [Act.put, List.setIfInBounds_toArray, List.set_cons_zero, List.set_cons_succ]
          refine wpAnyH_ready (rs := [7]) (by kernel_rfl) (by simp) ?_
          refine AllReadyH.cons rfl (fun K hK => ?_) AllReadyH.nil
          go_simp
          have O7 : Hid ((Y1.alloc (.cells #[] 31)).ownsRow w7.heap.size 31 3 (.slice (some ⟨Y1.heap.size, 0, none⟩) 0 0) 0 (flat [])) := Lib.hid (World.ownsRow_lit Y1 #[] 0 HBX.out.size (by unfold maxLen; omega) rfl)
          have hq7 : Y1.heap.size < (Y1.alloc (.cells #[] 31)).heap.size := by simp
          replace NW := Lib.hid (newsKeep (Below.heap_alloc Y1 (.cells #[] 31) _ hq14) NW.out)
          have hq8 := hq14
          replace hq14 := Nat.lt_trans hq14 hq7
          replace HBX := Lib.hid (HBX.out.alloc HBX.out.size (.cells #[] 31))
          obtain ⟨Y2, hY2⟩ : ∃ Y, Y1.alloc (.cells #[] 31) = Y := ⟨_, rfl⟩
          rw [hY2] at O7 hq7 HBX NW hq14 ⊢
          refine hK.out _ _ ?_ (fun hHeld => ?_)
          · exact ⟨cell_upC HBX.out R0.out, cell_upC HBX.out R1.out, cell_upC HBX.out R2.out, B9.out.trans (HBX.out.mono B9.out.size)⟩
          clear hK K
          try simp only [Act.put, List.setIfInBounds_toArray, List.set_cons_zero, List.set_cons_succ]
          refine wpAnyH_ready (rs := [9]) (by kernel_rfl) (by simp) ?_
          refine AllReadyH.cons rfl (fun K hK => ?_) AllReadyH.nil
          rw [if_pos (by kernel_rfl)]
          refine appK_row 95 rfl (.tmp 93) (.tmp 94) rfl _ w7.heap.size HBX.out.size (.slice (some ⟨Y1.heap.size, 0, none⟩) 0 0) 0 [] rfl O7.out (by omega) ⟨gg, 0, none⟩ N _ ks rfl (by omega) HL4.out (Sibs.news (I7.out.step HBX.out)) ?_
          intro v3 Y3 ho hb1 hs hf
          have O9 : Hid (Y3.ownsRow w7.heap.size 31 3 v3 N (flat ks)) := Lib.hid (by simpa using ho)
          replace NW := Lib.hid (newsKeep (hf _ hq14 (by simp [Value.ownBlock]; omega)) NW.out)
          replace HBX := Lib.hid (HBX.out.trans hb1)
          clear ho hb1 hf
          refine hK.out _ _ ?_ (fun hHeld => ?_)
          · exact ⟨cell_upC HBX.out R0.out, cell_upC HBX.out R1.out, cell_upC HBX.out R2.out, B9.out.trans (HBX.out.mono B9.out.size)⟩
          clear hK K
          try simp only [Act.put, List.setIfInBounds_toArray, List.set_cons_zero, List.set_cons_succ]
          refine wpAnyH_ready (rs := [15]) (by kernel_rfl) (by simp) ?_
          refine AllReadyH.cons rfl (fun K hK => ?_) AllReadyH.nil
          rw [if_pos (by kernel_rfl)]
          refine appK_row 101 rfl (.tmp 95) (.tmp 100) rfl _ w7.heap.size HBX.out.size _ N ks rfl O9.out (by omega) _ 1 1 [⟨A1, n1, d1, ⟨vv, g, t⟩⟩] rfl (by omega) rfl NW.out ?_
          intro v4 Y4 ho hb1 hs hf
          obtain ⟨A4, c4, rfl⟩ := own_valS ho
          replace HBX := Lib.hid (HBX.out.trans hb1)
          have HT := Lib.hid (hasS_row ho (fun k hk => (I7.out.step HBX.out).2 k ((List.mem_append.1 hk).elim id (fun h => by rw [List.mem_singleton.1 h]; exact MX.out))))
          clear ho hb1 hf
          refine hK.out _ _ ?_ (fun hHeld => ?_)
          · exact ⟨cell_upC HBX.out R0.out, cell_upC HBX.out R1.out, cell_upC HBX.out R2.out, B9.out.trans (HBX.out.mono B9.out.size)⟩
          clear hK K
          try simp only [Act.put, List.setIfInBounds_toArray, List.set_cons_zero, List.set_cons_succ]
          refine wpAnyH_ready (rs := [16]) (by kernel_rfl) (by simp) ?_
          refine AllReadyH.cons rfl (fun K hK => ?_) AllReadyH.nil
          go_simp
          go_at_call 31
          refine (iSibsOk_any A4 (N + 1) c4 (ks ++ [⟨A1, n1, d1, ⟨vv, g, t⟩⟩]) _ HT.out (by unfold maxLen; omega)).mono ?_
          rintro e w8 ⟨rfl, hb⟩
          rw [TW.out]
          replace HBX := Lib.hid (HBX.out.trans (hb.mono HBX.out.size))
          refine hK.out _ _ ?_ (fun hHeld => ?_)
          · exact ⟨cell_upC HBX.out R0.out, cell_upC HBX.out R1.out, cell_upC HBX.out R2.out, B9.out.trans (HBX.out.mono B9.out.size)⟩
          clear hK K
          try simp only [Act.put, List.setIfInBounds_toArray, List.set_cons_zero, List.set_cons_succ]
          refine heldT (i := 17) (d := 103) (v := ?_) rfl rfl (by kernel_rfl) (by kernel_rfl) (by kernel_rfl) (fun _ _ _ h => h) (by kernel_rfl) ?_ (by assumption) ?_
          rotate_left
          · (intro w hSw; (try dsimp only at hSw); go_simp; try with_reducible rfl)
          simp only [Act.put, List.setIfInBounds_toArray, List.set_cons_zero, List.set_cons_succ]
          refine heldT (i := 18) (d := 104) (v := ?_) rfl rfl (by kernel_rfl) (by kernel_rfl) (by kernel_rfl) (fun _ _ _ h => h) (by kernel_rfl) ?_ (by assumption) ?_
          rotate_left
          · (intro w hSw; (try dsimp only at hSw); go_simp; try with_reducible rfl)
          simp only [Act.put, List.setIfInBounds_toArray, List.set_cons_zero, List.set_cons_succ]
          refine heldT (i := 19) (d := 4) (v := ?_) rfl rfl (by kernel_rfl) (by kernel_rfl) (by kernel_rfl) (fun _ _ _ h => h) (by kernel_rfl) ?_ (by assumption) ?_
          rotate_left
          · (intro w hSw; (try dsimp only at hSw); go_simp; try with_reducible rfl)
          simp only [Act.put, List.setIfInBounds_toArray, List.set_cons_zero, List.set_cons_succ]
          refine wpAnyH_done (by kernel_rfl) ?_ _
          go_wp2
          go_ret
          exact ⟨rfl, B8.out.trans ((B9.out.trans (HBX.out.mono B9.out.size)).mono B8.out.size)⟩
  · have k1' : sibsOk (sbs ks) = false := by simpa using k1
    clear k1
    rw [k1']
    go_wp2_with fail
    refine (sSibsOk_any _ N c1 ks _ I3.out hNm).mono ?_
    rintro e w4 ⟨rfl, hb⟩
    rw [k1']
    have B4 := Lib.hid (B3.out.trans (hb.mono B3.out.size))
    clear hb
    go_wp2
    go_ret
    exact ⟨rfl, B4.out⟩

end Go.Proofs.YtlmjgbonoihccaaDoor

