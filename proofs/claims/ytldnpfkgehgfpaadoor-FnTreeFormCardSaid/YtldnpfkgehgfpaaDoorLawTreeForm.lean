
/-
  The walk of the law FnTreeForm. (Printed by gen/treeform.py.)
-/
import Derived.Test.YtldnpfkgehgfpaaDoorTreeX
import Derived.Test.YtldnpfkgehgfpaaDoorTreeY
import Derived.Test.YtldnpfkgehgfpaaDoorSibsQ
namespace Go.Proofs.YtldnpfkgehgfpaaDoor
open Go.RowKit Go.PlainAid

/-- A file that is nothing, in a row of its own. -/
theorem bare_new (w : World) : HasF (w.alloc (.cells #[.string ⟨#[65]⟩, .slice none 0 0] 29)) (some ⟨w.heap.size, 0, none⟩) 1 [⟨⟨#[65]⟩, none, 0, 0, []⟩] := by
  refine ⟨⟨rfl, fun _ => ⟨w.heap.size, 0, rfl, Nat.zero_le _, by simp, fun j u hu => ?_⟩⟩, fun k hk => ?_⟩
  · have := cell_two_new w (.string ⟨#[65]⟩) (.slice none 0 0) 29 j u hu
    have hadd : (⟨w.heap.size, 0, none⟩ : Addr).add j = ⟨w.heap.size, 0 + j, none⟩ := by unfold Addr.add; split <;> simp_all
    rw [hadd] at this
    exact this
  · rw [List.mem_singleton] at hk
    subst hk
    exact ⟨Sibs.nil _ _ _ _, by decide, by decide⟩
theorem bare_bad : treeOk (fls [(⟨⟨#[65]⟩, none, 0, 0, []⟩ : Kf)]) = false := treeOk_bare _

set_option maxRecDepth 100000 in
set_option linter.unusedSimpArgs false in
set_option maxHeartbeats 6400000 in
theorem FnTreeForm_walk (A A' : Option Addr) (n n' c c' : Nat) (zs zs' : List Int) (w : World) (h : Came w A n c zs) (_ : Came w A' n' c' zs') :
    Calls Tryd.prog 3 #[.slice A n c, .slice A' n' c'] w fun e w' => e = .returned (.bool true) ∧ Below w.heap.size w w' := by
  by_cases big : 1048576 < n
  · go_enter Tryd.func3, Tryd.ntmps3
    go_wp2
    go_ret
    exact ⟨rfl, Below.refl _ _⟩
  by_cases big' : 1048576 < n'
  · go_enter Tryd.func3, Tryd.ntmps3
    go_wp2
    go_ret
    exact ⟨rfl, Below.refl _ _⟩
  have H := Lib.hid h
  clear h
  go_enter Tryd.func3, Tryd.ntmps3
  go_wp2_with fail
  refine (DrawTreeOk_any A n c zs _ H.out).mono ?_
  rintro e w1 ⟨gg, c1, fs, rfl, hl, hcap, hb, hI⟩
  have B1 := Lib.hid hb
  have I1 := Lib.hid hI
  obtain ⟨N, hN⟩ : ∃ N, fs.length = N := ⟨_, rfl⟩
  rw [hN] at hl hcap
  clear hb hI
  rw [hN] at I1 ⊢
  have HN := Lib.hid hN
  have hNm : N ≤ maxLen := by unfold maxLen; omega
  clear hN
  go_wp2_with fail
  refine (iTreeOk_any _ N c1 fs _ I1.out hNm).mono ?_
  rintro e w2 ⟨rfl, hb⟩
  have B2 := Lib.hid (B1.out.trans (hb.mono B1.out.size))
  have I2 := Lib.hid (I1.out.step hb)
  clear hb I1
  go_wp2_with fail
  refine (sTreeOk_any _ N c1 fs _ I2.out hNm).mono ?_
  rintro e w3 ⟨rfl, hb⟩
  have B3 := Lib.hid (B2.out.trans (hb.mono B2.out.size))
  have I3 := Lib.hid (I2.out.step hb)
  clear hb I2
  by_cases k1 : treeOk (fls fs) = true
  · rw [k1]
    have ALL : Hid (∀ j, j < N → okAt (fls fs) j = true) := Lib.hid (fun j hj => (treeOk_iff.1 k1).1 j (by rw [fls_len, HN.out]; exact hj))
    have K1 := Lib.hid k1
    clear k1 B1 B2 H
    go_wp2
    go_loopw [7] (fun i wr => ∃ k : Nat, k ≤ N ∧ i = .int .i64 k ∧ Hid (Below w3.heap.size w3 wr)) (fun i _ => N - (intOf i).toNat)
    case atStart => exact ⟨0, Nat.zero_le _, rfl, Below.refl _ _⟩
    case round =>
      obtain ⟨k, hk, rfl, HB⟩ := hrel
      by_cases hlt : k < N
      · obtain ⟨b', off', t, A1, n1, d1, ks', e, hbl, c0, c1', I, hn1, ht1, hx⟩ := I3.out.at_ hlt
        simp only [Option.some.injEq, Addr.mk.injEq, and_true] at e
        obtain ⟨rfl, rfl⟩ := e
        rw [Nat.zero_add] at c0 c1'
        have Q0 := Lib.hid (cell_upC HB.out c0)
        have Q1 := Lib.hid (cell_upC HB.out c1')
        have IR := Lib.hid (I.step HB.out)
        have hx1 := Lib.hid (fls_at hx.out)
        have hm1 : n1 ≤ maxLen := by unfold maxLen; omega
        have hs : sibsOk (sbs ks') = true := (okAt_own hx1.out (ALL.out k hlt)).2
        clear c0 c1' I
        match k with
        | 0 =>
          go_wp2
          have Q1 : Hid (wr.cell? ⟨gg, 1, none⟩ = some (.slice A1 n1 d1)) := by simpa using Q1
          refine wp_region_held_drew (S := (fun w' => w'.cell? ⟨gg, 1, none⟩ = some (.slice A1 n1 d1) ∧ HasS w' A1 n1 ks' ∧ Below w3.heap.size w3 w')) (by kernel_rfl) ?_ (fun hHeld => ?_)
          · exact ⟨by exact Q1.out, by exact IR.out, HB.out.drew⟩
          refine heldT (i := 0) (d := 40) (v := ?_) rfl rfl (by kernel_rfl) (by kernel_rfl) (by kernel_rfl) (fun _ _ _ h => h) (by kernel_rfl) ?_ (by assumption) ?_
          rotate_left
          · (intro w hSw; (try dsimp only at hSw); go_simp; try with_reducible rfl)
          simp only [Act.put, List.setIfInBounds_toArray, List.set_cons_zero, List.set_cons_succ]
          refine heldT (i := 1) (d := 41) (v := ?_) rfl rfl (by kernel_rfl) (by kernel_rfl) (by kernel_rfl) (fun _ _ _ h => h) (by kernel_rfl) ?_ (by assumption) ?_
          rotate_left
          · (intro w hSw; (try dsimp only at hSw); go_simp; try with_reducible rfl)
          simp only [Act.put, List.setIfInBounds_toArray, List.set_cons_zero, List.set_cons_succ]
          refine heldT (i := 2) (d := 42) (v := ?_) rfl rfl (by kernel_rfl) (by kernel_rfl) (by kernel_rfl) (fun _ _ _ h => h) (by kernel_rfl) ?_ (by assumption) ?_
          rotate_left
          · (intro w hSw; (try dsimp only at hSw); go_simp; try with_reducible rfl)
          simp only [Act.put, List.setIfInBounds_toArray, List.set_cons_zero, List.set_cons_succ]
          refine heldT (i := 3) (d := 43) (v := ?_) rfl rfl (by kernel_rfl) (by kernel_rfl) (by kernel_rfl) (fun _ _ _ h => h) (by kernel_rfl) ?_ (by assumption) ?_
          rotate_left
          · (intro w hSw; (try dsimp only at hSw); go_simp; try with_reducible rfl)
          simp only [Act.put, List.setIfInBounds_toArray, List.set_cons_zero, List.set_cons_succ]
          refine heldT (i := 4) (d := 44) (v := ?_) rfl rfl (by kernel_rfl) (by kernel_rfl) (by kernel_rfl) (fun _ _ _ h => h) (by kernel_rfl) ?_ (by assumption) ?_
          rotate_left
          · (intro w hSw; (try dsimp only at hSw); go_simp; try with_reducible rfl)
          simp only [Act.put, List.setIfInBounds_toArray, List.set_cons_zero, List.set_cons_succ]
          refine wpAnyH_ready (rs := [5]) (by kernel_rfl) (by simp) ?_
          refine AllReadyH.cons rfl (fun K hK => ?_) AllReadyH.nil
          go_simp
          go_at_call 7
          go_split_ands
          refine (iSibsOk_any _ _ _ ks' _ (by assumption) hm1).mono ?_
          rintro e w6 ⟨rfl, hb⟩
          rw [hs]
          refine hK.out _ _ ?_ (fun hHeld => ?_)
          · go_split_ands
            exact ⟨cell_upC hb (by assumption), HasS.step (by assumption) hb, Below.trans (by assumption) (hb.mono (Below.size (by assumption)))⟩
          clear hK K
          try simp only [Act.put, List.setIfInBounds_toArray, List.set_cons_zero, List.set_cons_succ]
          refine heldT (i := 6) (d := 46) (v := ?_) rfl rfl (by kernel_rfl) (by kernel_rfl) (by kernel_rfl) (fun _ _ _ h => h) (by kernel_rfl) ?_ (by assumption) ?_
          rotate_left
          · (intro w hSw; (try dsimp only at hSw); go_simp; try with_reducible rfl)
          simp only [Act.put, List.setIfInBounds_toArray, List.set_cons_zero, List.set_cons_succ]
          refine heldT (i := 7) (d := 47) (v := ?_) rfl rfl (by kernel_rfl) (by kernel_rfl) (by kernel_rfl) (fun _ _ _ h => h) (by kernel_rfl) ?_ (by assumption) ?_
          rotate_left
          · (intro w hSw; (try dsimp only at hSw); go_simp; try with_reducible rfl)
          simp only [Act.put, List.setIfInBounds_toArray, List.set_cons_zero, List.set_cons_succ]
          refine heldT (i := 8) (d := 48) (v := ?_) rfl rfl (by kernel_rfl) (by kernel_rfl) (by kernel_rfl) (fun _ _ _ h => h) (by kernel_rfl) ?_ (by assumption) ?_
          rotate_left
          · (intro w hSw; (try dsimp only at hSw); go_simp; try with_reducible rfl)
          simp only [Act.put, List.setIfInBounds_toArray, List.set_cons_zero, List.set_cons_succ]
          refine heldT (i := 9) (d := 49) (v := ?_) rfl rfl (by kernel_rfl) (by kernel_rfl) (by kernel_rfl) (fun _ _ _ h => h) (by kernel_rfl) ?_ (by assumption) ?_
          rotate_left
          · (intro w hSw; (try dsimp only at hSw); go_simp; try with_reducible rfl)
          simp only [Act.put, List.setIfInBounds_toArray, List.set_cons_zero, List.set_cons_succ]
          refine heldT (i := 10) (d := 50) (v := ?_) rfl rfl (by kernel_rfl) (by kernel_rfl) (by kernel_rfl) (fun _ _ _ h => h) (by kernel_rfl) ?_ (by assumption) ?_
          rotate_left
          · (intro w hSw; (try dsimp only at hSw); go_simp; try with_reducible rfl)
          simp only [Act.put, List.setIfInBounds_toArray, List.set_cons_zero, List.set_cons_succ]
          refine heldU (i := 11) (d := 51) rfl rfl (by kernel_rfl) (by kernel_rfl) (by kernel_rfl) (fun _ _ _ h => h) (by kernel_rfl) (by assumption) ?_
          simp only [Act.put, List.setIfInBounds_toArray, List.set_cons_zero, List.set_cons_succ]
          refine heldU (i := 12) (d := 52) rfl rfl (by kernel_rfl) (by kernel_rfl) (by kernel_rfl) (fun _ _ _ h => h) (by kernel_rfl) (by assumption) ?_
          simp only [Act.put, List.setIfInBounds_toArray, List.set_cons_zero, List.set_cons_succ]
          refine heldU (i := 13) (d := 53) rfl rfl (by kernel_rfl) (by kernel_rfl) (by kernel_rfl) (fun _ _ _ h => h) (by kernel_rfl) (by assumption) ?_
          simp only [Act.put, List.setIfInBounds_toArray, List.set_cons_zero, List.set_cons_succ]
          refine heldU (i := 14) (d := 54) rfl rfl (by kernel_rfl) (by kernel_rfl) (by kernel_rfl) (fun _ _ _ h => h) (by kernel_rfl) (by assumption) ?_
          simp only [Act.put, List.setIfInBounds_toArray, List.set_cons_zero, List.set_cons_succ]
          refine heldU (i := 15) (d := 55) rfl rfl (by kernel_rfl) (by kernel_rfl) (by kernel_rfl) (fun _ _ _ h => h) (by kernel_rfl) (by assumption) ?_
          simp only [Act.put, List.setIfInBounds_toArray, List.set_cons_zero, List.set_cons_succ]
          refine heldU (i := 16) (d := 56) rfl rfl (by kernel_rfl) (by kernel_rfl) (by kernel_rfl) (fun _ _ _ h => h) (by kernel_rfl) (by assumption) ?_
          simp only [Act.put, List.setIfInBounds_toArray, List.set_cons_zero, List.set_cons_succ]
          refine heldU (i := 17) (d := 57) rfl rfl (by kernel_rfl) (by kernel_rfl) (by kernel_rfl) (fun _ _ _ h => h) (by kernel_rfl) (by assumption) ?_
          simp only [Act.put, List.setIfInBounds_toArray, List.set_cons_zero, List.set_cons_succ]
          refine heldU (i := 18) (d := 58) rfl rfl (by kernel_rfl) (by kernel_rfl) (by kernel_rfl) (fun _ _ _ h => h) (by kernel_rfl) (by assumption) ?_
          simp only [Act.put, List.setIfInBounds_toArray, List.set_cons_zero, List.set_cons_succ]
          refine heldU (i := 19) (d := 59) rfl rfl (by kernel_rfl) (by kernel_rfl) (by kernel_rfl) (fun _ _ _ h => h) (by kernel_rfl) (by assumption) ?_
          simp only [Act.put, List.setIfInBounds_toArray, List.set_cons_zero, List.set_cons_succ]
          refine heldU (i := 20) (d := 60) rfl rfl (by kernel_rfl) (by kernel_rfl) (by kernel_rfl) (fun _ _ _ h => h) (by kernel_rfl) (by assumption) ?_
          simp only [Act.put, List.setIfInBounds_toArray, List.set_cons_zero, List.set_cons_succ]
          refine heldU (i := 21) (d := 61) rfl rfl (by kernel_rfl) (by kernel_rfl) (by kernel_rfl) (fun _ _ _ h => h) (by kernel_rfl) (by assumption) ?_
          simp only [Act.put, List.setIfInBounds_toArray, List.set_cons_zero, List.set_cons_succ]
          refine heldU (i := 22) (d := 62) rfl rfl (by kernel_rfl) (by kernel_rfl) (by kernel_rfl) (fun _ _ _ h => h) (by kernel_rfl) (by assumption) ?_
          simp only [Act.put, List.setIfInBounds_toArray, List.set_cons_zero, List.set_cons_succ]
          refine heldT (i := 23) (d := 63) (v := ?_) rfl rfl (by kernel_rfl) (by kernel_rfl) (by kernel_rfl) (fun _ _ _ h => h) (by kernel_rfl) ?_ (by assumption) ?_
          rotate_left
          · (intro w hSw; (try dsimp only at hSw); go_simp; try with_reducible rfl)
          simp only [Act.put, List.setIfInBounds_toArray, List.set_cons_zero, List.set_cons_succ]
          refine heldT (i := 24) (d := 64) (v := ?_) rfl rfl (by kernel_rfl) (by kernel_rfl) (by kernel_rfl) (fun _ _ _ h => h) (by kernel_rfl) ?_ (by assumption) ?_
          rotate_left
          · (intro w hSw; (try dsimp only at hSw); go_simp; try with_reducible rfl)
          simp only [Act.put, List.setIfInBounds_toArray, List.set_cons_zero, List.set_cons_succ]
          refine wpAnyH_done (by kernel_rfl) ?_ _
          go_split_ands
          have HBn := Lib.hid (show Below w3.heap.size w3 w6 by assumption)
          go_wp2
          go_roundw
          case rel => exact ⟨1, by omega, by go_num, HBn⟩
          case measure => simp [intOf]; omega
        | p + 1 =>
          obtain ⟨b', off', t2, A3, n3, d3, ks3, e, hbl', c0, c1', J, hn3, ht3, hy⟩ := I3.out.at_ (j := p) (by omega)
          simp only [Option.some.injEq, Addr.mk.injEq, and_true] at e
          obtain ⟨rfl, rfl⟩ := e
          rw [Nat.zero_add] at c0 c1'
          have P0 := Lib.hid (cell_upC HB.out c0)
          have hz : Op.bytesLess t2.toList t.toList = true := by
            have h1 := ALL.out (p + 1) hlt
            rw [okAt_succ (fls_at hy.out) hx1.out, Bool.and_eq_true] at h1
            exact h1.2
          have i1 : (p : Int) < (N : Int) := by omega
          have i2 : (p : Int) + 1 < (N : Int) := by omega
          have i3 : (0 : Int) ≤ (p : Int) + 1 := by omega
          have i4 : (0 : Int) ≤ (p : Int) := by omega
          have i5 : (0 : Int) < (p : Int) + 1 := by omega
          have i6 : IntKind.i64.wrap (p : Int) = (p : Int) := IntWalk.i64_in _ (by omega)
          clear c0 c1' J
          go_wp2
          refine wp_region_held_drew (S := (fun w' => w'.cell? ⟨gg, (p + 1) * 2, none⟩ = some (.string t) ∧ w'.cell? ⟨gg, (p + 1) * 2 + 1, none⟩ = some (.slice A1 n1 d1) ∧ w'.cell? ⟨gg, p * 2, none⟩ = some (.string t2) ∧ HasS w' A1 n1 ks' ∧ Below w3.heap.size w3 w')) (by kernel_rfl) ?_ (fun hHeld => ?_)
          · exact ⟨by exact Q0.out, by exact Q1.out, by exact P0.out, by exact IR.out, HB.out.drew⟩
          refine heldT (i := 0) (d := 40) (v := ?_) rfl rfl (by kernel_rfl) (by kernel_rfl) (by kernel_rfl) (fun _ _ _ h => h) (by kernel_rfl) ?_ (by assumption) ?_
          rotate_left
          · (intro w hSw; (try dsimp only at hSw); go_simp; try with_reducible rfl)
          simp only [Act.put, List.setIfInBounds_toArray, List.set_cons_zero, List.set_cons_succ]
          refine heldT (i := 1) (d := 41) (v := ?_) rfl rfl (by kernel_rfl) (by kernel_rfl) (by kernel_rfl) (fun _ _ _ h => h) (by kernel_rfl) ?_ (by assumption) ?_
          rotate_left
          · (intro w hSw; (try dsimp only at hSw); go_simp; try with_reducible rfl)
          simp only [Act.put, List.setIfInBounds_toArray, List.set_cons_zero, List.set_cons_succ]
          refine heldT (i := 2) (d := 42) (v := ?_) rfl rfl (by kernel_rfl) (by kernel_rfl) (by kernel_rfl) (fun _ _ _ h => h) (by kernel_rfl) ?_ (by assumption) ?_
          rotate_left
          · (intro w hSw; (try dsimp only at hSw); go_simp; try with_reducible rfl)
          simp only [Act.put, List.setIfInBounds_toArray, List.set_cons_zero, List.set_cons_succ]
          refine heldT (i := 3) (d := 43) (v := ?_) rfl rfl (by kernel_rfl) (by kernel_rfl) (by kernel_rfl) (fun _ _ _ h => h) (by kernel_rfl) ?_ (by assumption) ?_
          rotate_left
          · (intro w hSw; (try dsimp only at hSw); go_simp; try with_reducible rfl)
          simp only [Act.put, List.setIfInBounds_toArray, List.set_cons_zero, List.set_cons_succ]
          refine heldT (i := 4) (d := 44) (v := ?_) rfl rfl (by kernel_rfl) (by kernel_rfl) (by kernel_rfl) (fun _ _ _ h => h) (by kernel_rfl) ?_ (by assumption) ?_
          rotate_left
          · (intro w hSw; (try dsimp only at hSw); go_simp; try with_reducible rfl)
          simp only [Act.put, List.setIfInBounds_toArray, List.set_cons_zero, List.set_cons_succ]
          refine wpAnyH_ready (rs := [5]) (by kernel_rfl) (by simp) ?_
          refine AllReadyH.cons rfl (fun K hK => ?_) AllReadyH.nil
          go_simp
          go_at_call 7
          go_split_ands
          refine (iSibsOk_any _ _ _ ks' _ (by assumption) hm1).mono ?_
          rintro e w6 ⟨rfl, hb⟩
          rw [hs]
          refine hK.out _ _ ?_ (fun hHeld => ?_)
          · go_split_ands
            exact ⟨cell_upC hb (by assumption), cell_upC hb (by assumption), cell_upC hb (by assumption), HasS.step (by assumption) hb, Below.trans (by assumption) (hb.mono (Below.size (by assumption)))⟩
          clear hK K
          try simp only [Act.put, List.setIfInBounds_toArray, List.set_cons_zero, List.set_cons_succ]
          refine heldT (i := 6) (d := 46) (v := ?_) rfl rfl (by kernel_rfl) (by kernel_rfl) (by kernel_rfl) (fun _ _ _ h => h) (by kernel_rfl) ?_ (by assumption) ?_
          rotate_left
          · (intro w hSw; (try dsimp only at hSw); go_simp; try with_reducible rfl)
          simp only [Act.put, List.setIfInBounds_toArray, List.set_cons_zero, List.set_cons_succ]
          refine heldT (i := 7) (d := 47) (v := ?_) rfl rfl (by kernel_rfl) (by kernel_rfl) (by kernel_rfl) (fun _ _ _ h => h) (by kernel_rfl) ?_ (by assumption) ?_
          rotate_left
          · (intro w hSw; (try dsimp only at hSw); go_simp; try with_reducible rfl)
          simp only [Act.put, List.setIfInBounds_toArray, List.set_cons_zero, List.set_cons_succ]
          refine heldT (i := 8) (d := 48) (v := ?_) rfl rfl (by kernel_rfl) (by kernel_rfl) (by kernel_rfl) (fun _ _ _ h => h) (by kernel_rfl) ?_ (by assumption) ?_
          rotate_left
          · (intro w hSw; (try dsimp only at hSw); go_simp; try with_reducible rfl)
          simp only [Act.put, List.setIfInBounds_toArray, List.set_cons_zero, List.set_cons_succ]
          refine heldT (i := 9) (d := 49) (v := ?_) rfl rfl (by kernel_rfl) (by kernel_rfl) (by kernel_rfl) (fun _ _ _ h => h) (by kernel_rfl) ?_ (by assumption) ?_
          rotate_left
          · (intro w hSw; (try dsimp only at hSw); go_simp; try with_reducible rfl)
          simp only [Act.put, List.setIfInBounds_toArray, List.set_cons_zero, List.set_cons_succ]
          refine heldT (i := 10) (d := 50) (v := ?_) rfl rfl (by kernel_rfl) (by kernel_rfl) (by kernel_rfl) (fun _ _ _ h => h) (by kernel_rfl) ?_ (by assumption) ?_
          rotate_left
          · (intro w hSw; (try dsimp only at hSw); go_simp; try with_reducible rfl)
          simp only [Act.put, List.setIfInBounds_toArray, List.set_cons_zero, List.set_cons_succ]
          refine heldT (i := 11) (d := 51) (v := ?_) rfl rfl (by kernel_rfl) (by kernel_rfl) (by kernel_rfl) (fun _ _ _ h => h) (by kernel_rfl) ?_ (by assumption) ?_
          rotate_left
          · (intro w hSw; (try dsimp only at hSw); go_simp; try with_reducible rfl)
          simp only [Act.put, List.setIfInBounds_toArray, List.set_cons_zero, List.set_cons_succ]
          refine heldT (i := 12) (d := 52) (v := ?_) rfl rfl (by kernel_rfl) (by kernel_rfl) (by kernel_rfl) (fun _ _ _ h => h) (by kernel_rfl) ?_ (by assumption) ?_
          rotate_left
          · (intro w hSw; (try dsimp only at hSw); go_simp; try with_reducible rfl)
          simp only [Act.put, List.setIfInBounds_toArray, List.set_cons_zero, List.set_cons_succ]
          refine heldT (i := 13) (d := 53) (v := ?_) rfl rfl (by kernel_rfl) (by kernel_rfl) (by kernel_rfl) (fun _ _ _ h => h) (by kernel_rfl) ?_ (by assumption) ?_
          rotate_left
          · (intro w hSw; (try dsimp only at hSw); go_simp; try with_reducible rfl)
          simp only [Act.put, List.setIfInBounds_toArray, List.set_cons_zero, List.set_cons_succ]
          refine heldT (i := 14) (d := 54) (v := ?_) rfl rfl (by kernel_rfl) (by kernel_rfl) (by kernel_rfl) (fun _ _ _ h => h) (by kernel_rfl) ?_ (by assumption) ?_
          rotate_left
          · (intro w hSw; (try dsimp only at hSw); go_simp; try with_reducible rfl)
          simp only [Act.put, List.setIfInBounds_toArray, List.set_cons_zero, List.set_cons_succ]
          refine heldT (i := 15) (d := 55) (v := ?_) rfl rfl (by kernel_rfl) (by kernel_rfl) (by kernel_rfl) (fun _ _ _ h => h) (by kernel_rfl) ?_ (by assumption) ?_
          rotate_left
          · (intro w hSw; (try dsimp only at hSw); go_simp; try with_reducible rfl)
          simp only [Act.put, List.setIfInBounds_toArray, List.set_cons_zero, List.set_cons_succ]
          refine heldT (i := 16) (d := 56) (v := ?_) rfl rfl (by kernel_rfl) (by kernel_rfl) (by kernel_rfl) (fun _ _ _ h => h) (by kernel_rfl) ?_ (by assumption) ?_
          rotate_left
          · (intro w hSw; (try dsimp only at hSw); go_simp; try with_reducible rfl)
          simp only [Act.put, List.setIfInBounds_toArray, List.set_cons_zero, List.set_cons_succ]
          refine heldT (i := 17) (d := 57) (v := ?_) rfl rfl (by kernel_rfl) (by kernel_rfl) (by kernel_rfl) (fun _ _ _ h => h) (by kernel_rfl) ?_ (by assumption) ?_
          rotate_left
          · (intro w hSw; (try dsimp only at hSw); go_simp; try with_reducible rfl)
          simp only [Act.put, List.setIfInBounds_toArray, List.set_cons_zero, List.set_cons_succ]
          refine heldT (i := 18) (d := 58) (v := ?_) rfl rfl (by kernel_rfl) (by kernel_rfl) (by kernel_rfl) (fun _ _ _ h => h) (by kernel_rfl) ?_ (by assumption) ?_
          rotate_left
          · (intro w hSw; (try dsimp only at hSw); go_simp; try with_reducible rfl)
          simp only [Act.put, List.setIfInBounds_toArray, List.set_cons_zero, List.set_cons_succ]
          refine heldT (i := 19) (d := 59) (v := ?_) rfl rfl (by kernel_rfl) (by kernel_rfl) (by kernel_rfl) (fun _ _ _ h => h) (by kernel_rfl) ?_ (by assumption) ?_
          rotate_left
          · (intro w hSw; (try dsimp only at hSw); go_simp; try with_reducible rfl)
          simp only [Act.put, List.setIfInBounds_toArray, List.set_cons_zero, List.set_cons_succ]
          refine heldT (i := 20) (d := 60) (v := ?_) rfl rfl (by kernel_rfl) (by kernel_rfl) (by kernel_rfl) (fun _ _ _ h => h) (by kernel_rfl) ?_ (by assumption) ?_
          rotate_left
          · (intro w hSw; (try dsimp only at hSw); go_simp; try with_reducible rfl)
          simp only [Act.put, List.setIfInBounds_toArray, List.set_cons_zero, List.set_cons_succ]
          refine heldT (i := 21) (d := 61) (v := ?_) rfl rfl (by kernel_rfl) (by kernel_rfl) (by kernel_rfl) (fun _ _ _ h => h) (by kernel_rfl) ?_ (by assumption) ?_
          rotate_left
          · (intro w hSw; (try dsimp only at hSw); go_simp; try with_reducible rfl)
          simp only [Act.put, List.setIfInBounds_toArray, List.set_cons_zero, List.set_cons_succ]
          refine heldT (i := 22) (d := 62) (v := ?_) rfl rfl (by kernel_rfl) (by kernel_rfl) (by kernel_rfl) (fun _ _ _ h => h) (by kernel_rfl) ?_ (by assumption) ?_
          rotate_left
          · (intro w hSw; (try dsimp only at hSw); go_simp; try with_reducible rfl)
          simp only [Act.put, List.setIfInBounds_toArray, List.set_cons_zero, List.set_cons_succ]
          refine heldT (i := 23) (d := 63) (v := ?_) rfl rfl (by kernel_rfl) (by kernel_rfl) (by kernel_rfl) (fun _ _ _ h => h) (by kernel_rfl) ?_ (by assumption) ?_
          rotate_left
          · (intro w hSw; (try dsimp only at hSw); go_simp; try with_reducible rfl)
          simp only [Act.put, List.setIfInBounds_toArray, List.set_cons_zero, List.set_cons_succ]
          refine heldT (i := 24) (d := 64) (v := ?_) rfl rfl (by kernel_rfl) (by kernel_rfl) (by kernel_rfl) (fun _ _ _ h => h) (by kernel_rfl) ?_ (by assumption) ?_
          rotate_left
          · (intro w hSw; (try dsimp only at hSw); go_simp; try with_reducible rfl)
          simp only [Act.put, List.setIfInBounds_toArray, List.set_cons_zero, List.set_cons_succ]
          refine wpAnyH_done (by kernel_rfl) ?_ _
          go_split_ands
          have HBn := Lib.hid (show Below w3.heap.size w3 w6 by assumption)
          go_wp2
          go_roundw
          case rel => exact ⟨p + 1 + 1, by omega, by go_num, HBn⟩
          case measure => simp [intOf]; omega
      · obtain rfl : N = k := by omega
        have B4 := Lib.hid (B3.out.trans (HB.out.mono B3.out.size))
        have I4 := Lib.hid (I3.out.step HB.out)
        clear HB I3 B3
        rcases Nat.eq_zero_or_pos N with N1 | N1
        · have e0 : (N : Int) = 0 := by omega
          clear N1
          go_wp2
          go_ret
          exact ⟨rfl, B4.out⟩
        obtain ⟨q, hq, hqN⟩ : ∃ q : Nat, Int.tmod (n' : Int) (N : Int) = (q : Int) ∧ q < N := ⟨n' % N, by rw [Int.tmod_eq_emod_of_nonneg (by omega)]; rfl, Nat.mod_lt _ N1⟩
        have N0 : ¬ (N : Int) = 0 := by omega
        have j1 : (q : Int) < (N : Int) := by omega
        have j2 : (0 : Int) ≤ (q : Int) := by omega
        have j3 : (q : Int) ≤ (N : Int) := by omega
        have j4 : (q : Int) + 1 ≤ (N : Int) := by omega
        have j5 : (0 : Int) ≤ (q : Int) + 1 := by omega
        have j6 : q ≤ c1 := by omega
        have j9 : IntKind.i64.wrap ((q : Int) + 1) = (q : Int) + 1 := IntWalk.i64_in _ (by omega)
        have j10 : ((q : Int) + 1).toNat = q + 1 := by omega
        have j7 : q + 1 ≤ c1 := by omega
        have j8 : (N : Int) ≤ (c1 : Int) := by omega
        obtain ⟨ad, had⟩ : ∃ ad, (if c1 = q + 1 then some (⟨gg, 0, none⟩ : Addr) else some ⟨gg, (q + 1) * 2, none⟩) = some ad := by split <;> exact ⟨_, rfl⟩
        have AD := Lib.hid had
        have HL4 := Lib.hid I4.out.len
        go_wp2
        have E5 : Hid ((wr.drew.alloc (.cells #[] 29)).ownsRow wr.heap.size 29 2 (.slice (some ⟨wr.heap.size, 0, none⟩) 0 0) 0 (flatF [])) := Lib.hid (World.ownsRow_lit wr.drew #[] 0 (Nat.le_refl _) (by unfold maxLen; omega) rfl)
        have B5 : Hid (Below wr.heap.size wr (wr.drew.alloc (.cells #[] 29))) := Lib.hid (((Below.refl wr.heap.size wr).drew).alloc (Nat.le_refl _) _)
        refine wp_region_held_drew (S := (fun _ => True)) (by kernel_rfl) ?_ (fun hHeld => ?_)
        · trivial
        refine heldT (i := 1) (d := 74) (v := ?_) rfl rfl (by kernel_rfl) (by kernel_rfl) (by kernel_rfl) (fun _ _ _ h => h) (by kernel_rfl) ?_ (by assumption) ?_
        rotate_left
        · (intro w hSw; (try dsimp only at hSw); go_simp; try with_reducible rfl)
        simp only [Act.put, List.setIfInBounds_toArray, List.set_cons_zero, List.set_cons_succ]
        refine heldT (i := 2) (d := 75) (v := ?_) rfl rfl (by kernel_rfl) (by kernel_rfl) (by kernel_rfl) (fun _ _ _ h => h) (by kernel_rfl) ?_ (by assumption) ?_
        rotate_left
        · (intro w hSw; (try dsimp only at hSw); go_simp; try with_reducible rfl)
        simp only [Act.put, List.setIfInBounds_toArray, List.set_cons_zero, List.set_cons_succ]
        refine heldT (i := 3) (d := 76) (v := ?_) rfl rfl (by kernel_rfl) (by kernel_rfl) (by kernel_rfl) (fun _ _ _ h => h) (by kernel_rfl) ?_ (by assumption) ?_
        rotate_left
        · (intro w hSw; (try dsimp only at hSw); go_simp; try with_reducible rfl)
        simp only [Act.put, List.setIfInBounds_toArray, List.set_cons_zero, List.set_cons_succ]
        refine heldT (i := 5) (d := 78) (v := ?_) rfl rfl (by kernel_rfl) (by kernel_rfl) (by kernel_rfl) (fun _ _ _ h => h) (by kernel_rfl) ?_ (by assumption) ?_
        rotate_left
        · (intro w hSw; (try dsimp only at hSw); go_simp; try with_reducible rfl)
        simp only [Act.put, List.setIfInBounds_toArray, List.set_cons_zero, List.set_cons_succ]
        refine heldT (i := 6) (d := 79) (v := ?_) rfl rfl (by kernel_rfl) (by kernel_rfl) (by kernel_rfl) (fun _ _ _ h => h) (by kernel_rfl) ?_ (by assumption) ?_
        rotate_left
        · (intro w hSw; (try dsimp only at hSw); go_simp; try with_reducible rfl)
        simp only [Act.put, List.setIfInBounds_toArray, List.set_cons_zero, List.set_cons_succ]
        refine heldT (i := 7) (d := 80) (v := ?_) rfl rfl (by kernel_rfl) (by kernel_rfl) (by kernel_rfl) (fun _ _ _ h => h) (by kernel_rfl) ?_ (by assumption) ?_
        rotate_left
        · (intro w hSw; (try dsimp only at hSw); go_simp; try with_reducible rfl)
        simp only [Act.put, List.setIfInBounds_toArray, List.set_cons_zero, List.set_cons_succ]
        refine heldT (i := 8) (d := 81) (v := ?_) rfl rfl (by kernel_rfl) (by kernel_rfl) (by kernel_rfl) (fun _ _ _ h => h) (by kernel_rfl) ?_ (by assumption) ?_
        rotate_left
        · (intro w hSw; (try dsimp only at hSw); go_simp; try with_reducible rfl)
        simp only [Act.put, List.setIfInBounds_toArray, List.set_cons_zero, List.set_cons_succ]
        refine wpAnyH_ready (rs := [0]) (by kernel_rfl) (by simp) ?_
        refine AllReadyH.cons rfl (fun K hK => ?_) AllReadyH.nil
        go_simp
        refine hK.out _ _ ?_ (fun hHeld => ?_)
        · trivial
        clear hK K
        try simp only [Act.put, List.setIfInBounds_toArray, List.set_cons_zero, List.set_cons_succ]
        refine wpAnyH_ready (rs := [4]) (by kernel_rfl) (by simp) ?_
        refine AllReadyH.cons rfl (fun K hK => ?_) AllReadyH.nil
        rw [if_pos (by kernel_rfl)]
        refine appF_row 77 rfl (.tmp 73) (.tmp 76) rfl _ wr.heap.size B5.out.size _ 0 [] rfl E5.out (by omega) ⟨gg, 0, none⟩ q _ (fs.take q) rfl (by omega) (by rw [List.length_take, HL4.out]; omega) (Files.news (HasF.pre (I4.out.step B5.out) (by omega))) ?_
        intro v1 w5 ho1 hb1 hs1 hf1
        have O1 : Hid (w5.ownsRow wr.heap.size 29 2 v1 q (flatF (fs.take q))) := Lib.hid (by simpa using ho1)
        have B6 := Lib.hid (B5.out.trans hb1)
        clear ho1 hb1 hf1
        refine hK.out _ _ ?_ (fun hHeld => ?_)
        · trivial
        clear hK K
        try simp only [Act.put, List.setIfInBounds_toArray, List.set_cons_zero, List.set_cons_succ]
        refine wpAnyH_ready (rs := [9]) (by kernel_rfl) (by simp) ?_
        refine AllReadyH.cons rfl (fun K hK => ?_) AllReadyH.nil
        rw [if_pos (by kernel_rfl)]
        refine appF_row 82 rfl (.tmp 77) (.tmp 81) rfl _ wr.heap.size B6.out.size _ q (fs.take q) rfl O1.out (by omega) ad (N - (q + 1)) _ (fs.drop (q + 1)) rfl (by omega) (by rw [List.length_drop, HL4.out]) (Files.postAt (I4.out.step B6.out) (k := q + 1) (by omega) hcap AD.out) ?_
        intro v2 w6 ho2 hb2 hs2 hf2
        have O2 := Lib.hid ho2
        have B7 := Lib.hid (B6.out.trans hb2)
        clear ho2 hb2 hf2
        refine hK.out _ _ ?_ (fun hHeld => ?_)
        · trivial
        clear hK K
        try simp only [Act.put, List.setIfInBounds_toArray, List.set_cons_zero, List.set_cons_succ]
        refine heldT (i := 10) (d := 9) (v := ?_) rfl rfl (by kernel_rfl) (by kernel_rfl) (by kernel_rfl) (fun _ _ _ h => h) (by kernel_rfl) ?_ (by assumption) ?_
        rotate_left
        · (intro w hSw; (try dsimp only at hSw); go_simp; try with_reducible rfl)
        simp only [Act.put, List.setIfInBounds_toArray, List.set_cons_zero, List.set_cons_succ]
        refine wpAnyH_done (by kernel_rfl) ?_ _
        go_split_ands
        obtain ⟨A2, c2, rfl⟩ := own_valS O2.out
        have I6 := Lib.hid (I4.out.step B7.out)
        have HL6 := Lib.hid (hasF_row O2.out (fun k hk => I6.out.2 k ((List.mem_append.1 hk).elim List.mem_of_mem_take List.mem_of_mem_drop)))
        have HZ : Hid (treeOk (fls (fs.take q ++ fs.drop (q + 1))) = true) := Lib.hid (by
          have e : fls (fs.take q ++ fs.drop (q + 1)) = (fls fs).take q ++ (fls fs).drop (q + 1) := by simp [fls]
          rw [e]
          exact treeOk_less K1.out q)
        have B8 := Lib.hid (B4.out.trans (B7.out.mono B4.out.size))
        have hM : q + (N - (q + 1)) ≤ maxLen := by unfold maxLen; omega
        obtain ⟨M, hMe⟩ : ∃ M, q + (N - (q + 1)) = M := ⟨_, rfl⟩
        rw [hMe] at HL6 hM ⊢
        clear hMe O1 O2 B5 E5 B6 B7 B4 hq
        obtain ⟨b', off', t, A1, n1, d1, ks', e, hbl, c0, c1', _, _, _, hx⟩ := I6.out.at_ hqN
        simp only [Option.some.injEq, Addr.mk.injEq, and_true] at e
        obtain ⟨rfl, rfl⟩ := e
        rw [Nat.zero_add] at c0 c1'
        have Q0 := Lib.hid c0
        have Q1 := Lib.hid c1'
        have TW : Hid (treeOk (fls (fs ++ [⟨t, A1, n1, d1, ks'⟩])) = false) := Lib.hid (by rw [fls_append]; exact treeOk_twice (fls_at hx.out))
        have MX : Hid ((⟨t, A1, n1, d1, ks'⟩ : Kf) ∈ fs) := Lib.hid (List.mem_of_getElem? hx.out)
        clear c0 c1' I4
        go_wp2
        refine wp_region_held_drew (S := (fun w' => w'.cell? ⟨gg, q * 2, none⟩ = some (.string t) ∧ w'.cell? ⟨gg, q * 2 + 1, none⟩ = some (.slice A1 n1 d1) ∧ Below w6.heap.size w6 w')) (by kernel_rfl) ?_ (fun hHeld => ?_)
        · exact ⟨by exact Q0.out, by exact Q1.out, (Below.refl _ _).drew⟩
        refine heldT (i := 0) (d := 83) (v := ?_) rfl rfl (by kernel_rfl) (by kernel_rfl) (by kernel_rfl) (fun _ _ _ h => h) (by kernel_rfl) ?_ (by assumption) ?_
        rotate_left
        · (intro w hSw; (try dsimp only at hSw); go_simp; try with_reducible rfl)
        simp only [Act.put, List.setIfInBounds_toArray, List.set_cons_zero, List.set_cons_succ]
        refine wpAnyH_ready (rs := [1]) (by kernel_rfl) (by simp) ?_
        refine AllReadyH.cons rfl (fun K hK => ?_) AllReadyH.nil
        go_simp
        go_at_call 5
        refine (iTreeOk_any A2 M c2 (fs.take q ++ fs.drop (q + 1)) _ (by exact HL6.out) hM).mono ?_
        rintro e w7 ⟨rfl, hb⟩
        rw [HZ.out]
        have B9 := Lib.hid (((Below.refl w6.heap.size w6).drew).trans hb)
        have I7 := Lib.hid (I6.out.step B9.out)
        have R0 := Lib.hid (cell_upC B9.out Q0.out)
        have R1 := Lib.hid (cell_upC B9.out Q1.out)
        have HBX := Lib.hid (Below.refl w7.heap.size w7)
        refine hK.out _ _ ?_ (fun hHeld => ?_)
        · go_split_ands
          exact ⟨cell_upC hb (by assumption), cell_upC hb (by assumption), Below.trans (by assumption) (hb.mono (Below.size (by assumption)))⟩
        clear hK K
        try simp only [Act.put, List.setIfInBounds_toArray, List.set_cons_zero, List.set_cons_succ]
        refine heldT (i := 2) (d := 85) (v := ?_) rfl rfl (by kernel_rfl) (by kernel_rfl) (by kernel_rfl) (fun _ _ _ h => h) (by kernel_rfl) ?_ (by assumption) ?_
        rotate_left
        · (intro w hSw; (try dsimp only at hSw); go_simp; try with_reducible rfl)
        simp only [Act.put, List.setIfInBounds_toArray, List.set_cons_zero, List.set_cons_succ]
        refine heldT (i := 4) (d := 87) (v := ?_) rfl rfl (by kernel_rfl) (by kernel_rfl) (by kernel_rfl) (fun _ _ _ h => h) (by kernel_rfl) ?_ (by assumption) ?_
        rotate_left
        · (intro w hSw; (try dsimp only at hSw); go_simp; try with_reducible rfl)
        simp only [Act.put, List.setIfInBounds_toArray, List.set_cons_zero, List.set_cons_succ]
        refine heldT (i := 6) (d := 89) (v := ?_) rfl rfl (by kernel_rfl) (by kernel_rfl) (by kernel_rfl) (fun _ _ _ h => h) (by kernel_rfl) ?_ (by assumption) ?_
        rotate_left
        · (intro w hSw; (try dsimp only at hSw); go_simp; try with_reducible rfl)
        simp only [Act.put, List.setIfInBounds_toArray, List.set_cons_zero, List.set_cons_succ]
        refine heldT (i := 7) (d := 90) (v := ?_) rfl rfl (by kernel_rfl) (by kernel_rfl) (by kernel_rfl) (fun _ _ _ h => h) (by kernel_rfl) ?_ (by assumption) ?_
        rotate_left
        · (intro w hSw; (try dsimp only at hSw); go_simp; try with_reducible rfl)
        simp only [Act.put, List.setIfInBounds_toArray, List.set_cons_zero, List.set_cons_succ]
        refine heldT (i := 8) (d := 91) (v := ?_) rfl rfl (by kernel_rfl) (by kernel_rfl) (by kernel_rfl) (fun _ _ _ h => h) (by kernel_rfl) ?_ (by assumption) ?_
        rotate_left
        · (intro w hSw; (try dsimp only at hSw); go_simp; try with_reducible rfl)
        simp only [Act.put, List.setIfInBounds_toArray, List.set_cons_zero, List.set_cons_succ]
        refine heldT (i := 9) (d := 92) (v := ?_) rfl rfl (by kernel_rfl) (by kernel_rfl) (by kernel_rfl) (fun _ _ _ h => h) (by kernel_rfl) ?_ (by assumption) ?_
        rotate_left
        · (intro w hSw; (try dsimp only at hSw); go_simp; try with_reducible rfl)
        simp only [Act.put, List.setIfInBounds_toArray, List.set_cons_zero, List.set_cons_succ]
        refine wpAnyH_ready (rs := [3, 10]) (by kernel_rfl) (by simp) ?_
        refine AllReadyH.cons rfl (fun K hK => ?_) (AllReadyH.cons rfl (fun K hK => ?_) AllReadyH.nil)
        · go_simp
          have O7 : Hid ((w7.alloc (.cells #[] 29)).ownsRow w7.heap.size 29 2 (.slice (some ⟨w7.heap.size, 0, none⟩) 0 0) 0 (flatF [])) := Lib.hid (World.ownsRow_lit w7 #[] 0 HBX.out.size (by unfold maxLen; omega) rfl)
          have hq7 : w7.heap.size < (w7.alloc (.cells #[] 29)).heap.size := by simp
          replace HBX := Lib.hid (HBX.out.alloc HBX.out.size (.cells #[] 29))
          obtain ⟨Y1, hY1⟩ : ∃ Y, w7.alloc (.cells #[] 29) = Y := ⟨_, rfl⟩
          rw [hY1] at O7 hq7 HBX ⊢
          refine hK.out _ _ ?_ (fun hHeld => ?_)
          · exact ⟨cell_upC HBX.out R0.out, cell_upC HBX.out R1.out, B9.out.trans (HBX.out.mono B9.out.size)⟩
          clear hK K
          try simp only [Act.put, List.setIfInBounds_toArray, List.set_cons_zero, List.set_cons_succ]
          refine wpAnyH_ready (rs := [5, 10]) (by kernel_rfl) (by simp) ?_
          refine AllReadyH.cons rfl (fun K hK => ?_) (AllReadyH.cons rfl (fun K hK => ?_) AllReadyH.nil)
          · rw [if_pos (by kernel_rfl)]
            refine appF_row 88 rfl (.tmp 86) (.tmp 87) rfl _ w7.heap.size HBX.out.size (.slice (some ⟨w7.heap.size, 0, none⟩) 0 0) 0 [] rfl O7.out (by omega) ⟨gg, 0, none⟩ N _ fs rfl (by omega) HL4.out (Files.news (I7.out.step HBX.out)) ?_
            intro v3 Y2 ho hb1 hs hf
            have O9 : Hid (Y2.ownsRow w7.heap.size 29 2 v3 N (flatF fs)) := Lib.hid (by simpa using ho)
            replace HBX := Lib.hid (HBX.out.trans hb1)
            clear ho hb1 hf
            refine hK.out _ _ ?_ (fun hHeld => ?_)
            · exact ⟨cell_upC HBX.out R0.out, cell_upC HBX.out R1.out, B9.out.trans (HBX.out.mono B9.out.size)⟩
            clear hK K
            try simp only [Act.put, List.setIfInBounds_toArray, List.set_cons_zero, List.set_cons_succ]
            refine wpAnyH_ready (rs := [10]) (by kernel_rfl) (by simp) ?_
            refine AllReadyH.cons rfl (fun K hK => ?_) AllReadyH.nil
            go_simp
            have NW : Hid (∀ j u, (flatF [(⟨t, A1, n1, d1, ks'⟩ : Kf)])[j]? = some u → (Y2.alloc (.cells #[.string t, .slice A1 n1 d1] 29)).cell? ((⟨Y2.heap.size, 0, none⟩ : Addr).add j) = some u) := Lib.hid (cell_two_new Y2 _ _ _)
            have hq14 : Y2.heap.size < (Y2.alloc (.cells #[.string t, .slice A1 n1 d1] 29)).heap.size := by simp
            replace O9 := Lib.hid (O9.out.alloc (.cells #[.string t, .slice A1 n1 d1] 29))
            replace HBX := Lib.hid (HBX.out.alloc HBX.out.size (.cells #[.string t, .slice A1 n1 d1] 29))
            obtain ⟨Y3, hY3⟩ : ∃ Y, Y2.alloc (.cells #[.string t, .slice A1 n1 d1] 29) = Y := ⟨_, rfl⟩
            rw [hY3] at NW hq14 HBX O9 ⊢
            refine hK.out _ _ ?_ (fun hHeld => ?_)
            · exact ⟨cell_upC HBX.out R0.out, cell_upC HBX.out R1.out, B9.out.trans (HBX.out.mono B9.out.size)⟩
            clear hK K
            try simp only [Act.put, List.setIfInBounds_toArray, List.set_cons_zero, List.set_cons_succ]
            refine wpAnyH_ready (rs := [11]) (by kernel_rfl) (by simp) ?_
            refine AllReadyH.cons rfl (fun K hK => ?_) AllReadyH.nil
            rw [if_pos (by kernel_rfl)]
            refine appF_row 94 rfl (.tmp 88) (.tmp 93) rfl _ w7.heap.size HBX.out.size _ N fs rfl O9.out (by omega) _ 1 1 [⟨t, A1, n1, d1, ks'⟩] rfl (by omega) rfl NW.out ?_
            intro v4 Y4 ho hb1 hs hf
            obtain ⟨A4, c4, rfl⟩ := own_valS ho
            replace HBX := Lib.hid (HBX.out.trans hb1)
            have HT := Lib.hid (hasF_row ho (fun k hk => (I7.out.step HBX.out).2 k ((List.mem_append.1 hk).elim id (fun h => by rw [List.mem_singleton.1 h]; exact MX.out))))
            clear ho hb1 hf
            refine hK.out _ _ ?_ (fun hHeld => ?_)
            · exact ⟨cell_upC HBX.out R0.out, cell_upC HBX.out R1.out, B9.out.trans (HBX.out.mono B9.out.size)⟩
            clear hK K
            try simp only [Act.put, List.setIfInBounds_toArray, List.set_cons_zero, List.set_cons_succ]
            refine wpAnyH_ready (rs := [12]) (by kernel_rfl) (by simp) ?_
            refine AllReadyH.cons rfl (fun K hK => ?_) AllReadyH.nil
            go_simp
            go_at_call 5
            refine (iTreeOk_any A4 (N + 1) c4 (fs ++ [⟨t, A1, n1, d1, ks'⟩]) _ HT.out (by unfold maxLen; omega)).mono ?_
            rintro e w8 ⟨rfl, hb⟩
            rw [TW.out]
            replace HBX := Lib.hid (HBX.out.trans (hb.mono HBX.out.size))
            refine hK.out _ _ ?_ (fun hHeld => ?_)
            · exact ⟨cell_upC HBX.out R0.out, cell_upC HBX.out R1.out, B9.out.trans (HBX.out.mono B9.out.size)⟩
            clear hK K
            try simp only [Act.put, List.setIfInBounds_toArray, List.set_cons_zero, List.set_cons_succ]
            refine heldT (i := 13) (d := 96) (v := ?_) rfl rfl (by kernel_rfl) (by kernel_rfl) (by kernel_rfl) (fun _ _ _ h => h) (by kernel_rfl) ?_ (by assumption) ?_
            rotate_left
            · (intro w hSw; (try dsimp only at hSw); go_simp; try with_reducible rfl)
            simp only [Act.put, List.setIfInBounds_toArray, List.set_cons_zero, List.set_cons_succ]
            refine heldT (i := 14) (d := 97) (v := ?_) rfl rfl (by kernel_rfl) (by kernel_rfl) (by kernel_rfl) (fun _ _ _ h => h) (by kernel_rfl) ?_ (by assumption) ?_
            rotate_left
            · (intro w hSw; (try dsimp only at hSw); go_simp; try with_reducible rfl)
            simp only [Act.put, List.setIfInBounds_toArray, List.set_cons_zero, List.set_cons_succ]
            refine heldT (i := 15) (d := 98) (v := ?_) rfl rfl (by kernel_rfl) (by kernel_rfl) (by kernel_rfl) (fun _ _ _ h => h) (by kernel_rfl) ?_ (by assumption) ?_
            rotate_left
            · (intro w hSw; (try dsimp only at hSw); go_simp; try with_reducible rfl)
            simp only [Act.put, List.setIfInBounds_toArray, List.set_cons_zero, List.set_cons_succ]
            refine heldT (i := 16) (d := 99) (v := ?_) rfl rfl (by kernel_rfl) (by kernel_rfl) (by kernel_rfl) (fun _ _ _ h => h) (by kernel_rfl) ?_ (by assumption) ?_
            rotate_left
            · (intro w hSw; (try dsimp only at hSw); go_simp; try with_reducible rfl)
            simp only [Act.put, List.setIfInBounds_toArray, List.set_cons_zero, List.set_cons_succ]
            refine wpAnyH_ready (rs := [17]) (by kernel_rfl) (by simp) ?_
            refine AllReadyH.cons rfl (fun K hK => ?_) AllReadyH.nil
            go_simp
            have BN := Lib.hid (bare_new w8)
            replace HBX := Lib.hid (HBX.out.alloc HBX.out.size (.cells #[.string ⟨#[65]⟩, .slice none 0 0] 29))
            obtain ⟨Y5, hY5⟩ : ∃ Y, w8.alloc (.cells #[.string ⟨#[65]⟩, .slice none 0 0] 29) = Y := ⟨_, rfl⟩
            rw [hY5] at BN HBX ⊢
            refine hK.out _ _ ?_ (fun hHeld => ?_)
            · exact ⟨cell_upC HBX.out R0.out, cell_upC HBX.out R1.out, B9.out.trans (HBX.out.mono B9.out.size)⟩
            clear hK K
            try simp only [Act.put, List.setIfInBounds_toArray, List.set_cons_zero, List.set_cons_succ]
            refine wpAnyH_ready (rs := [18]) (by kernel_rfl) (by simp) ?_
            refine AllReadyH.cons rfl (fun K hK => ?_) AllReadyH.nil
            go_simp
            go_at_call 5
            refine (iTreeOk_any (some ⟨w8.heap.size, 0, none⟩) 1 1 [⟨⟨#[65]⟩, none, 0, 0, []⟩] _ BN.out (by unfold maxLen; omega)).mono ?_
            rintro e w9 ⟨rfl, hb⟩
            rw [bare_bad]
            replace HBX := Lib.hid (HBX.out.trans (hb.mono HBX.out.size))
            refine hK.out _ _ ?_ (fun hHeld => ?_)
            · exact ⟨cell_upC HBX.out R0.out, cell_upC HBX.out R1.out, B9.out.trans (HBX.out.mono B9.out.size)⟩
            clear hK K
            try simp only [Act.put, List.setIfInBounds_toArray, List.set_cons_zero, List.set_cons_succ]
            refine heldT (i := 19) (d := 102) (v := ?_) rfl rfl (by kernel_rfl) (by kernel_rfl) (by kernel_rfl) (fun _ _ _ h => h) (by kernel_rfl) ?_ (by assumption) ?_
            rotate_left
            · (intro w hSw; (try dsimp only at hSw); go_simp; try with_reducible rfl)
            simp only [Act.put, List.setIfInBounds_toArray, List.set_cons_zero, List.set_cons_succ]
            refine heldT (i := 20) (d := 103) (v := ?_) rfl rfl (by kernel_rfl) (by kernel_rfl) (by kernel_rfl) (fun _ _ _ h => h) (by kernel_rfl) ?_ (by assumption) ?_
            rotate_left
            · (intro w hSw; (try dsimp only at hSw); go_simp; try with_reducible rfl)
            simp only [Act.put, List.setIfInBounds_toArray, List.set_cons_zero, List.set_cons_succ]
            refine heldT (i := 21) (d := 4) (v := ?_) rfl rfl (by kernel_rfl) (by kernel_rfl) (by kernel_rfl) (fun _ _ _ h => h) (by kernel_rfl) ?_ (by assumption) ?_
            rotate_left
            · (intro w hSw; (try dsimp only at hSw); go_simp; try with_reducible rfl)
            simp only [Act.put, List.setIfInBounds_toArray, List.set_cons_zero, List.set_cons_succ]
            refine wpAnyH_done (by kernel_rfl) ?_ _
            go_wp2
            go_ret
            exact ⟨rfl, B8.out.trans ((B9.out.trans (HBX.out.mono B9.out.size)).mono B8.out.size)⟩
          · go_simp
            have NW : Hid (∀ j u, (flatF [(⟨t, A1, n1, d1, ks'⟩ : Kf)])[j]? = some u → (Y1.alloc (.cells #[.string t, .slice A1 n1 d1] 29)).cell? ((⟨Y1.heap.size, 0, none⟩ : Addr).add j) = some u) := Lib.hid (cell_two_new Y1 _ _ _)
            have hq14 : Y1.heap.size < (Y1.alloc (.cells #[.string t, .slice A1 n1 d1] 29)).heap.size := by simp
            replace O7 := Lib.hid (O7.out.alloc (.cells #[.string t, .slice A1 n1 d1] 29))
            replace HBX := Lib.hid (HBX.out.alloc HBX.out.size (.cells #[.string t, .slice A1 n1 d1] 29))
            obtain ⟨Y2, hY2⟩ : ∃ Y, Y1.alloc (.cells #[.string t, .slice A1 n1 d1] 29) = Y := ⟨_, rfl⟩
            rw [hY2] at NW hq14 HBX O7 ⊢
            refine hK.out _ _ ?_ (fun hHeld => ?_)
            · exact ⟨cell_upC HBX.out R0.out, cell_upC HBX.out R1.out, B9.out.trans (HBX.out.mono B9.out.size)⟩
            clear hK K
            try simp only [Act.put, List.setIfInBounds_toArray, List.set_cons_zero, List.set_cons_succ]
            refine wpAnyH_ready (rs := [5]) (by kernel_rfl) (by simp) ?_
            refine AllReadyH.cons rfl (fun K hK => ?_) AllReadyH.nil
            rw [if_pos (by kernel_rfl)]
            refine appF_row 88 rfl (.tmp 86) (.tmp 87) rfl _ w7.heap.size HBX.out.size (.slice (some ⟨w7.heap.size, 0, none⟩) 0 0) 0 [] rfl O7.out (by omega) ⟨gg, 0, none⟩ N _ fs rfl (by omega) HL4.out (Files.news (I7.out.step HBX.out)) ?_
            intro v3 Y3 ho hb1 hs hf
            have O9 : Hid (Y3.ownsRow w7.heap.size 29 2 v3 N (flatF fs)) := Lib.hid (by simpa using ho)
            replace NW := Lib.hid (newsKeep (hf _ hq14 (by simp [Value.ownBlock]; omega)) NW.out)
            replace HBX := Lib.hid (HBX.out.trans hb1)
            clear ho hb1 hf
            refine hK.out _ _ ?_ (fun hHeld => ?_)
            · exact ⟨cell_upC HBX.out R0.out, cell_upC HBX.out R1.out, B9.out.trans (HBX.out.mono B9.out.size)⟩
            clear hK K
            try simp only [Act.put, List.setIfInBounds_toArray, List.set_cons_zero, List.set_cons_succ]
            refine wpAnyH_ready (rs := [11]) (by kernel_rfl) (by simp) ?_
            refine AllReadyH.cons rfl (fun K hK => ?_) AllReadyH.nil
            rw [if_pos (by kernel_rfl)]
            refine appF_row 94 rfl (.tmp 88) (.tmp 93) rfl _ w7.heap.size HBX.out.size _ N fs rfl O9.out (by omega) _ 1 1 [⟨t, A1, n1, d1, ks'⟩] rfl (by omega) rfl NW.out ?_
            intro v4 Y4 ho hb1 hs hf
            obtain ⟨A4, c4, rfl⟩ := own_valS ho
            replace HBX := Lib.hid (HBX.out.trans hb1)
            have HT := Lib.hid (hasF_row ho (fun k hk => (I7.out.step HBX.out).2 k ((List.mem_append.1 hk).elim id (fun h => by rw [List.mem_singleton.1 h]; exact MX.out))))
            clear ho hb1 hf
            refine hK.out _ _ ?_ (fun hHeld => ?_)
            · exact ⟨cell_upC HBX.out R0.out, cell_upC HBX.out R1.out, B9.out.trans (HBX.out.mono B9.out.size)⟩
            clear hK K
            try simp only [Act.put, List.setIfInBounds_toArray, List.set_cons_zero, List.set_cons_succ]
            refine wpAnyH_ready (rs := [12]) (by kernel_rfl) (by simp) ?_
            refine AllReadyH.cons rfl (fun K hK => ?_) AllReadyH.nil
            go_simp
            go_at_call 5
            refine (iTreeOk_any A4 (N + 1) c4 (fs ++ [⟨t, A1, n1, d1, ks'⟩]) _ HT.out (by unfold maxLen; omega)).mono ?_
            rintro e w8 ⟨rfl, hb⟩
            rw [TW.out]
            replace HBX := Lib.hid (HBX.out.trans (hb.mono HBX.out.size))
            refine hK.out _ _ ?_ (fun hHeld => ?_)
            · exact ⟨cell_upC HBX.out R0.out, cell_upC HBX.out R1.out, B9.out.trans (HBX.out.mono B9.out.size)⟩
            clear hK K
            try simp only [Act.put, List.setIfInBounds_toArray, List.set_cons_zero, List.set_cons_succ]
            refine heldT (i := 13) (d := 96) (v := ?_) rfl rfl (by kernel_rfl) (by kernel_rfl) (by kernel_rfl) (fun _ _ _ h => h) (by kernel_rfl) ?_ (by assumption) ?_
            rotate_left
            · (intro w hSw; (try dsimp only at hSw); go_simp; try with_reducible rfl)
            simp only [Act.put, List.setIfInBounds_toArray, List.set_cons_zero, List.set_cons_succ]
            refine heldT (i := 14) (d := 97) (v := ?_) rfl rfl (by kernel_rfl) (by kernel_rfl) (by kernel_rfl) (fun _ _ _ h => h) (by kernel_rfl) ?_ (by assumption) ?_
            rotate_left
            · (intro w hSw; (try dsimp only at hSw); go_simp; try with_reducible rfl)
            simp only [Act.put, List.setIfInBounds_toArray, List.set_cons_zero, List.set_cons_succ]
            refine heldT (i := 15) (d := 98) (v := ?_) rfl rfl (by kernel_rfl) (by kernel_rfl) (by kernel_rfl) (fun _ _ _ h => h) (by kernel_rfl) ?_ (by assumption) ?_
            rotate_left
            · (intro w hSw; (try dsimp only at hSw); go_simp; try with_reducible rfl)
            simp only [Act.put, List.setIfInBounds_toArray, List.set_cons_zero, List.set_cons_succ]
            refine heldT (i := 16) (d := 99) (v := ?_) rfl rfl (by kernel_rfl) (by kernel_rfl) (by kernel_rfl) (fun _ _ _ h => h) (by kernel_rfl) ?_ (by assumption) ?_
            rotate_left
            · (intro w hSw; (try dsimp only at hSw); go_simp; try with_reducible rfl)
            simp only [Act.put, List.setIfInBounds_toArray, List.set_cons_zero, List.set_cons_succ]
            refine wpAnyH_ready (rs := [17]) (by kernel_rfl) (by simp) ?_
            refine AllReadyH.cons rfl (fun K hK => ?_) AllReadyH.nil
            go_simp
            have BN := Lib.hid (bare_new w8)
            replace HBX := Lib.hid (HBX.out.alloc HBX.out.size (.cells #[.string ⟨#[65]⟩, .slice none 0 0] 29))
            obtain ⟨Y5, hY5⟩ : ∃ Y, w8.alloc (.cells #[.string ⟨#[65]⟩, .slice none 0 0] 29) = Y := ⟨_, rfl⟩
            rw [hY5] at BN HBX ⊢
            refine hK.out _ _ ?_ (fun hHeld => ?_)
            · exact ⟨cell_upC HBX.out R0.out, cell_upC HBX.out R1.out, B9.out.trans (HBX.out.mono B9.out.size)⟩
            clear hK K
            try simp only [Act.put, List.setIfInBounds_toArray, List.set_cons_zero, List.set_cons_succ]
            refine wpAnyH_ready (rs := [18]) (by kernel_rfl) (by simp) ?_
            refine AllReadyH.cons rfl (fun K hK => ?_) AllReadyH.nil
            go_simp
            go_at_call 5
            refine (iTreeOk_any (some ⟨w8.heap.size, 0, none⟩) 1 1 [⟨⟨#[65]⟩, none, 0, 0, []⟩] _ BN.out (by unfold maxLen; omega)).mono ?_
            rintro e w9 ⟨rfl, hb⟩
            rw [bare_bad]
            replace HBX := Lib.hid (HBX.out.trans (hb.mono HBX.out.size))
            refine hK.out _ _ ?_ (fun hHeld => ?_)
            · exact ⟨cell_upC HBX.out R0.out, cell_upC HBX.out R1.out, B9.out.trans (HBX.out.mono B9.out.size)⟩
            clear hK K
            try simp only [Act.put, List.setIfInBounds_toArray, List.set_cons_zero, List.set_cons_succ]
            refine heldT (i := 19) (d := 102) (v := ?_) rfl rfl (by kernel_rfl) (by kernel_rfl) (by kernel_rfl) (fun _ _ _ h => h) (by kernel_rfl) ?_ (by assumption) ?_
            rotate_left
            · (intro w hSw; (try dsimp only at hSw); go_simp; try with_reducible rfl)
            simp only [Act.put, List.setIfInBounds_toArray, List.set_cons_zero, List.set_cons_succ]
            refine heldT (i := 20) (d := 103) (v := ?_) rfl rfl (by kernel_rfl) (by kernel_rfl) (by kernel_rfl) (fun _ _ _ h => h) (by kernel_rfl) ?_ (by assumption) ?_
            rotate_left
            · (intro w hSw; (try dsimp only at hSw); go_simp; try with_reducible rfl)
            simp only [Act.put, List.setIfInBounds_toArray, List.set_cons_zero, List.set_cons_succ]
            refine heldT (i := 21) (d := 4) (v := ?_) rfl rfl (by kernel_rfl) (by kernel_rfl) (by kernel_rfl) (fun _ _ _ h => h) (by kernel_rfl) ?_ (by assumption) ?_
            rotate_left
            · (intro w hSw; (try dsimp only at hSw); go_simp; try with_reducible rfl)
            simp only [Act.put, List.setIfInBounds_toArray, List.set_cons_zero, List.set_cons_succ]
            refine wpAnyH_done (by kernel_rfl) ?_ _
            go_wp2
            go_ret
            exact ⟨rfl, B8.out.trans ((B9.out.trans (HBX.out.mono B9.out.size)).mono B8.out.size)⟩
        · go_simp
          have NW : Hid (∀ j u, (flatF [(⟨t, A1, n1, d1, ks'⟩ : Kf)])[j]? = some u → (w7.alloc (.cells #[.string t, .slice A1 n1 d1] 29)).cell? ((⟨w7.heap.size, 0, none⟩ : Addr).add j) = some u) := Lib.hid (cell_two_new w7 _ _ _)
          have hq14 : w7.heap.size < (w7.alloc (.cells #[.string t, .slice A1 n1 d1] 29)).heap.size := by simp
          replace HBX := Lib.hid (HBX.out.alloc HBX.out.size (.cells #[.string t, .slice A1 n1 d1] 29))
          obtain ⟨Y1, hY1⟩ : ∃ Y, w7.alloc (.cells #[.string t, .slice A1 n1 d1] 29) = Y := ⟨_, rfl⟩
          rw [hY1] at NW hq14 HBX ⊢
          refine hK.out _ _ ?_ (fun hHeld => ?_)
          · exact ⟨cell_upC HBX.out R0.out, cell_upC HBX.out R1.out, B9.out.trans (HBX.out.mono B9.out.size)⟩
          clear hK K
          try simp only [Act.put, List.setIfInBounds_toArray, List.set_cons_zero, List.set_cons_succ]
          refine wpAnyH_ready (rs := [3]) (by kernel_rfl) (by simp) ?_
          refine AllReadyH.cons rfl (fun K hK => ?_) AllReadyH.nil
          go_simp
          have O7 : Hid ((Y1.alloc (.cells #[] 29)).ownsRow w7.heap.size 29 2 (.slice (some ⟨Y1.heap.size, 0, none⟩) 0 0) 0 (flatF [])) := Lib.hid (World.ownsRow_lit Y1 #[] 0 HBX.out.size (by unfold maxLen; omega) rfl)
          have hq7 : Y1.heap.size < (Y1.alloc (.cells #[] 29)).heap.size := by simp
          replace NW := Lib.hid (newsKeep (Below.heap_alloc Y1 (.cells #[] 29) _ hq14) NW.out)
          have hq8 := hq14
          replace hq14 := Nat.lt_trans hq14 hq7
          replace HBX := Lib.hid (HBX.out.alloc HBX.out.size (.cells #[] 29))
          obtain ⟨Y2, hY2⟩ : ∃ Y, Y1.alloc (.cells #[] 29) = Y := ⟨_, rfl⟩
          rw [hY2] at O7 hq7 HBX NW hq14 ⊢
          refine hK.out _ _ ?_ (fun hHeld => ?_)
          · exact ⟨cell_upC HBX.out R0.out, cell_upC HBX.out R1.out, B9.out.trans (HBX.out.mono B9.out.size)⟩
          clear hK K
          try simp only [Act.put, List.setIfInBounds_toArray, List.set_cons_zero, List.set_cons_succ]
          refine wpAnyH_ready (rs := [5]) (by kernel_rfl) (by simp) ?_
          refine AllReadyH.cons rfl (fun K hK => ?_) AllReadyH.nil
          rw [if_pos (by kernel_rfl)]
          refine appF_row 88 rfl (.tmp 86) (.tmp 87) rfl _ w7.heap.size HBX.out.size (.slice (some ⟨Y1.heap.size, 0, none⟩) 0 0) 0 [] rfl O7.out (by omega) ⟨gg, 0, none⟩ N _ fs rfl (by omega) HL4.out (Files.news (I7.out.step HBX.out)) ?_
          intro v3 Y3 ho hb1 hs hf
          have O9 : Hid (Y3.ownsRow w7.heap.size 29 2 v3 N (flatF fs)) := Lib.hid (by simpa using ho)
          replace NW := Lib.hid (newsKeep (hf _ hq14 (by simp [Value.ownBlock]; omega)) NW.out)
          replace HBX := Lib.hid (HBX.out.trans hb1)
          clear ho hb1 hf
          refine hK.out _ _ ?_ (fun hHeld => ?_)
          · exact ⟨cell_upC HBX.out R0.out, cell_upC HBX.out R1.out, B9.out.trans (HBX.out.mono B9.out.size)⟩
          clear hK K
          try simp only [Act.put, List.setIfInBounds_toArray, List.set_cons_zero, List.set_cons_succ]
          refine wpAnyH_ready (rs := [11]) (by kernel_rfl) (by simp) ?_
          refine AllReadyH.cons rfl (fun K hK => ?_) AllReadyH.nil
          rw [if_pos (by kernel_rfl)]
          refine appF_row 94 rfl (.tmp 88) (.tmp 93) rfl _ w7.heap.size HBX.out.size _ N fs rfl O9.out (by omega) _ 1 1 [⟨t, A1, n1, d1, ks'⟩] rfl (by omega) rfl NW.out ?_
          intro v4 Y4 ho hb1 hs hf
          obtain ⟨A4, c4, rfl⟩ := own_valS ho
          replace HBX := Lib.hid (HBX.out.trans hb1)
          have HT := Lib.hid (hasF_row ho (fun k hk => (I7.out.step HBX.out).2 k ((List.mem_append.1 hk).elim id (fun h => by rw [List.mem_singleton.1 h]; exact MX.out))))
          clear ho hb1 hf
          refine hK.out _ _ ?_ (fun hHeld => ?_)
          · exact ⟨cell_upC HBX.out R0.out, cell_upC HBX.out R1.out, B9.out.trans (HBX.out.mono B9.out.size)⟩
          clear hK K
          try simp only [Act.put, List.setIfInBounds_toArray, List.set_cons_zero, List.set_cons_succ]
          refine wpAnyH_ready (rs := [12]) (by kernel_rfl) (by simp) ?_
          refine AllReadyH.cons rfl (fun K hK => ?_) AllReadyH.nil
          go_simp
          go_at_call 5
          refine (iTreeOk_any A4 (N + 1) c4 (fs ++ [⟨t, A1, n1, d1, ks'⟩]) _ HT.out (by unfold maxLen; omega)).mono ?_
          rintro e w8 ⟨rfl, hb⟩
          rw [TW.out]
          replace HBX := Lib.hid (HBX.out.trans (hb.mono HBX.out.size))
          refine hK.out _ _ ?_ (fun hHeld => ?_)
          · exact ⟨cell_upC HBX.out R0.out, cell_upC HBX.out R1.out, B9.out.trans (HBX.out.mono B9.out.size)⟩
          clear hK K
          try simp only [Act.put, List.setIfInBounds_toArray, List.set_cons_zero, List.set_cons_succ]
          refine heldT (i := 13) (d := 96) (v := ?_) rfl rfl (by kernel_rfl) (by kernel_rfl) (by kernel_rfl) (fun _ _ _ h => h) (by kernel_rfl) ?_ (by assumption) ?_
          rotate_left
          · (intro w hSw; (try dsimp only at hSw); go_simp; try with_reducible rfl)
          simp only [Act.put, List.setIfInBounds_toArray, List.set_cons_zero, List.set_cons_succ]
          refine heldT (i := 14) (d := 97) (v := ?_) rfl rfl (by kernel_rfl) (by kernel_rfl) (by kernel_rfl) (fun _ _ _ h => h) (by kernel_rfl) ?_ (by assumption) ?_
          rotate_left
          · (intro w hSw; (try dsimp only at hSw); go_simp; try with_reducible rfl)
          simp only [Act.put, List.setIfInBounds_toArray, List.set_cons_zero, List.set_cons_succ]
          refine heldT (i := 15) (d := 98) (v := ?_) rfl rfl (by kernel_rfl) (by kernel_rfl) (by kernel_rfl) (fun _ _ _ h => h) (by kernel_rfl) ?_ (by assumption) ?_
          rotate_left
          · (intro w hSw; (try dsimp only at hSw); go_simp; try with_reducible rfl)
          simp only [Act.put, List.setIfInBounds_toArray, List.set_cons_zero, List.set_cons_succ]
          refine heldT (i := 16) (d := 99) (v := ?_) rfl rfl (by kernel_rfl) (by kernel_rfl) (by kernel_rfl) (fun _ _ _ h => h) (by kernel_rfl) ?_ (by assumption) ?_
          rotate_left
          · (intro w hSw; (try dsimp only at hSw); go_simp; try with_reducible rfl)
          simp only [Act.put, List.setIfInBounds_toArray, List.set_cons_zero, List.set_cons_succ]
          refine wpAnyH_ready (rs := [17]) (by kernel_rfl) (by simp) ?_
          refine AllReadyH.cons rfl (fun K hK => ?_) AllReadyH.nil
          go_simp
          have BN := Lib.hid (bare_new w8)
          replace HBX := Lib.hid (HBX.out.alloc HBX.out.size (.cells #[.string ⟨#[65]⟩, .slice none 0 0] 29))
          obtain ⟨Y5, hY5⟩ : ∃ Y, w8.alloc (.cells #[.string ⟨#[65]⟩, .slice none 0 0] 29) = Y := ⟨_, rfl⟩
          rw [hY5] at BN HBX ⊢
          refine hK.out _ _ ?_ (fun hHeld => ?_)
          · exact ⟨cell_upC HBX.out R0.out, cell_upC HBX.out R1.out, B9.out.trans (HBX.out.mono B9.out.size)⟩
          clear hK K
          try simp only [Act.put, List.setIfInBounds_toArray, List.set_cons_zero, List.set_cons_succ]
          refine wpAnyH_ready (rs := [18]) (by kernel_rfl) (by simp) ?_
          refine AllReadyH.cons rfl (fun K hK => ?_) AllReadyH.nil
          go_simp
          go_at_call 5
          refine (iTreeOk_any (some ⟨w8.heap.size, 0, none⟩) 1 1 [⟨⟨#[65]⟩, none, 0, 0, []⟩] _ BN.out (by unfold maxLen; omega)).mono ?_
          rintro e w9 ⟨rfl, hb⟩
          rw [bare_bad]
          replace HBX := Lib.hid (HBX.out.trans (hb.mono HBX.out.size))
          refine hK.out _ _ ?_ (fun hHeld => ?_)
          · exact ⟨cell_upC HBX.out R0.out, cell_upC HBX.out R1.out, B9.out.trans (HBX.out.mono B9.out.size)⟩
          clear hK K
          try simp only [Act.put, List.setIfInBounds_toArray, List.set_cons_zero, List.set_cons_succ]
          refine heldT (i := 19) (d := 102) (v := ?_) rfl rfl (by kernel_rfl) (by kernel_rfl) (by kernel_rfl) (fun _ _ _ h => h) (by kernel_rfl) ?_ (by assumption) ?_
          rotate_left
          · (intro w hSw; (try dsimp only at hSw); go_simp; try with_reducible rfl)
          simp only [Act.put, List.setIfInBounds_toArray, List.set_cons_zero, List.set_cons_succ]
          refine heldT (i := 20) (d := 103) (v := ?_) rfl rfl (by kernel_rfl) (by kernel_rfl) (by kernel_rfl) (fun _ _ _ h => h) (by kernel_rfl) ?_ (by assumption) ?_
          rotate_left
          · (intro w hSw; (try dsimp only at hSw); go_simp; try with_reducible rfl)
          simp only [Act.put, List.setIfInBounds_toArray, List.set_cons_zero, List.set_cons_succ]
          refine heldT (i := 21) (d := 4) (v := ?_) rfl rfl (by kernel_rfl) (by kernel_rfl) (by kernel_rfl) (fun _ _ _ h => h) (by kernel_rfl) ?_ (by assumption) ?_
          rotate_left
          · (intro w hSw; (try dsimp only at hSw); go_simp; try with_reducible rfl)
          simp only [Act.put, List.setIfInBounds_toArray, List.set_cons_zero, List.set_cons_succ]
          refine wpAnyH_done (by kernel_rfl) ?_ _
          go_wp2
          go_ret
          exact ⟨rfl, B8.out.trans ((B9.out.trans (HBX.out.mono B9.out.size)).mono B8.out.size)⟩
  · have k1' : treeOk (fls fs) = false := by simpa using k1
    clear k1
    rw [k1']
    go_wp2_with fail
    refine (sTreeOk_any _ N c1 fs _ I3.out hNm).mono ?_
    rintro e w4 ⟨rfl, hb⟩
    rw [k1']
    have B4 := Lib.hid (B3.out.trans (hb.mono B3.out.size))
    clear hb
    go_wp2
    go_ret
    exact ⟨rfl, B4.out⟩

end Go.Proofs.YtldnpfkgehgfpaaDoor

