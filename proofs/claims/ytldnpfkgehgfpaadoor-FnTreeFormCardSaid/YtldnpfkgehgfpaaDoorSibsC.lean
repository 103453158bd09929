
/-
  Contracts of areSibs and SibsOk (the program's).
-/
import Derived.Test.YtldnpfkgehgfpaaDoorSibsB
import Derived.Test.YtldnpfkgehgfpaaDoorHeld
namespace Go.Proofs.YtldnpfkgehgfpaaDoor
open Go.RowKit Go.PlainAid Go.Shelf

set_option maxRecDepth 100000 in
/-- The closure of areSibs. -/
theorem areSibs1_any (A B : Option Addr) (n m c d p : Nat) (xs ys : List Int) (g g' : Bool) (t u : ByteArray) (w : World) (V : Var3 43 w p (.slice A n c) (.bool g) (.string t)) (h1 : Has w A n xs) (h2 : Has w B m ys) (hn : n = 3) (hm : m = 3) :
    Calls Tryd.prog 27 #[.agg #[.slice B m d, .bool g', .string u], .pointer (some ⟨p, 0, none⟩)] w fun e w' => e = .returned (.bool (sup ⟨xs, g, t⟩ ⟨ys, g', u⟩)) ∧ Below w.heap.size w w' := by
  have b1 := bel_alloc w (.cells #[.slice B m d, .bool g', .string u] 43)
  have BW := Lib.hid b1
  have I1 := Lib.hid (h1.step b1)
  have I2 := Lib.hid (h2.step b1)
  have V1 := V.step b1
  have v0 := V1.c0
  have v1 := V1.c1
  have v2 := V1.c2
  have hl := V.lt
  have hne : p ≠ w.heap.size := by omega
  have HN := Lib.hid hn
  have HM := Lib.hid hm
  clear h1 h2 V V1 b1 hn hm
  go_enter Tryd.func27, Tryd.ntmps27
  go_wp2_with fail
  refine (super_any A B n m c d xs ys g g' t u _ I1.out I2.out HN.out HM.out).mono ?_
  rintro e w' ⟨rfl, hb⟩
  have B2 := Lib.hid (BW.out.trans (hb.mono BW.out.size))
  clear hb
  go_wp2
  go_ret
  exact ⟨rfl, B2.out⟩

set_option maxRecDepth 100000 in
set_option linter.unusedSimpArgs false in
set_option maxHeartbeats 1600000 in
theorem areSibs_any (A : Option Addr) (n c : Nat) (ks : List Kv) (w : World) (h : HasS w A n ks) (hn : n ≤ maxLen) :
    Calls Tryd.prog 16 #[.slice A n c] w fun e w' => e = .returned (.bool (sibsOk (sbs ks))) ∧ Below w.heap.size w w' := by
  have HN := Lib.hid hn
  unfold maxLen at hn
  have H := Lib.hid h
  have HL := Lib.hid h.len
  clear h
  go_enter Tryd.func16, Tryd.ntmps16
  go_wp2
  go_loopw [9] (fun i wr => ∃ k : Nat, k ≤ n ∧ i = .int .i64 k ∧ Hid (Below w.heap.size w wr) ∧ Hid (okTo (sbs ks) k)) (fun i _ => n - (intOf i).toNat)
  case atStart => exact ⟨0, Nat.zero_le _, rfl, Below.refl _ _, okTo_zero _⟩
  case round =>
    obtain ⟨k, hk, rfl, HB, hall⟩ := hrel
    by_cases hlt : k < n
    · obtain ⟨b, off, A', n', c', vv, g, t, rfl, hbl, c0, c1, c2, I, hn', ht', hx⟩ := H.out.at_ hlt
      have q0 := cell_upC HB.out c0
      have q1 := cell_upC HB.out c1
      have q2 := cell_upC HB.out c2
      have W1 := bel_alloc wr (.cells #[.slice A' n' c', .bool g, .string t] 43)
      have IR := Lib.hid ((I.step HB.out).step W1)
      have BR := Lib.hid (HB.out.trans (W1.mono HB.out.size))
      have VR := Lib.hid (Var3.new 43 wr (.slice A' n' c') (.bool g) (.string t))
      clear c0 c1 c2 I
      by_cases hs : sibOk ⟨vv, g, t⟩ = true
      · rcases k with _ | m
        · clear W1
          rw [Nat.zero_mul, Nat.add_zero] at q0 q1 q2
          go_wp2
          refine wp_region_held_drew (S := (fun w' => w'.cell? ⟨wr.heap.size, 0, none⟩ = some (.slice A' n' c') ∧ w'.cell? ⟨wr.heap.size, 1, none⟩ = some (.bool g) ∧ w'.cell? ⟨wr.heap.size, 2, none⟩ = some (.string t) ∧ Has w' A' n' vv ∧ Below w.heap.size w w')) (by kernel_rfl) ?_ (fun hHeld => ?_)
          · exact ⟨VR.out.c0, VR.out.c1, VR.out.c2, by exact IR.out, BR.out.drew⟩
          refine heldT (i := 0) (d := 14) (v := ?_) rfl rfl (by kernel_rfl) (by kernel_rfl) (by kernel_rfl) (fun _ _ _ h => h) (by kernel_rfl) ?_ (by assumption) ?_
          rotate_left
          · (intro w hSw; (try dsimp only at hSw); go_simp; try with_reducible rfl)
          simp only [Act.put, List.setIfInBounds_toArray, List.set_cons_zero, List.set_cons_succ]
          refine wpAnyH_ready (rs := [1]) (by kernel_rfl) (by simp) ?_
          refine AllReadyH.cons rfl (fun K hK => ?_) AllReadyH.nil
          go_simp
          go_at_call 24
          go_split_ands
          refine (isSib_any _ _ _ vv _ _ _ (by assumption) hn').mono ?_
          rintro e w6 ⟨rfl, hb⟩
          rw [hs]
          refine hK.out _ _ ?_ (fun hHeld => ?_)
          · go_split_ands
            exact ⟨cell_upC hb (by assumption), cell_upC hb (by assumption), cell_upC hb (by assumption), Has.step (by assumption) hb, Below.trans (by assumption) (hb.mono (Below.size (by assumption)))⟩
          clear hK K
          try simp only [Act.put, List.setIfInBounds_toArray, List.set_cons_zero, List.set_cons_succ]
          refine heldT (i := 2) (d := 16) (v := ?_) rfl rfl (by kernel_rfl) (by kernel_rfl) (by kernel_rfl) (fun _ _ _ h => h) (by kernel_rfl) ?_ (by assumption) ?_
          rotate_left
          · (intro w hSw; (try dsimp only at hSw); go_simp; try with_reducible rfl)
          simp only [Act.put, List.setIfInBounds_toArray, List.set_cons_zero, List.set_cons_succ]
          refine heldT (i := 3) (d := 17) (v := ?_) rfl rfl (by kernel_rfl) (by kernel_rfl) (by kernel_rfl) (fun _ _ _ h => h) (by kernel_rfl) ?_ (by assumption) ?_
          rotate_left
          · (intro w hSw; (try dsimp only at hSw); go_simp; try with_reducible rfl)
          simp only [Act.put, List.setIfInBounds_toArray, List.set_cons_zero, List.set_cons_succ]
          refine heldT (i := 4) (d := 18) (v := ?_) rfl rfl (by kernel_rfl) (by kernel_rfl) (by kernel_rfl) (fun _ _ _ h => h) (by kernel_rfl) ?_ (by assumption) ?_
          rotate_left
          · (intro w hSw; (try dsimp only at hSw); go_simp; try with_reducible rfl)
          simp only [Act.put, List.setIfInBounds_toArray, List.set_cons_zero, List.set_cons_succ]
          refine heldT (i := 5) (d := 19) (v := ?_) rfl rfl (by kernel_rfl) (by kernel_rfl) (by kernel_rfl) (fun _ _ _ h => h) (by kernel_rfl) ?_ (by assumption) ?_
          rotate_left
          · (intro w hSw; (try dsimp only at hSw); go_simp; try with_reducible rfl)
          simp only [Act.put, List.setIfInBounds_toArray, List.set_cons_zero, List.set_cons_succ]
          refine heldT (i := 6) (d := 20) (v := ?_) rfl rfl (by kernel_rfl) (by kernel_rfl) (by kernel_rfl) (fun _ _ _ h => h) (by kernel_rfl) ?_ (by assumption) ?_
          rotate_left
          · (intro w hSw; (try dsimp only at hSw); go_simp; try with_reducible rfl)
          simp only [Act.put, List.setIfInBounds_toArray, List.set_cons_zero, List.set_cons_succ]
          refine heldU (i := 7) (d := 21) rfl rfl (by kernel_rfl) (by kernel_rfl) (by kernel_rfl) (fun _ _ _ h => h) (by kernel_rfl) (by assumption) ?_
          simp only [Act.put, List.setIfInBounds_toArray, List.set_cons_zero, List.set_cons_succ]
          refine heldU (i := 8) (d := 22) rfl rfl (by kernel_rfl) (by kernel_rfl) (by kernel_rfl) (fun _ _ _ h => h) (by kernel_rfl) (by assumption) ?_
          simp only [Act.put, List.setIfInBounds_toArray, List.set_cons_zero, List.set_cons_succ]
          refine heldU (i := 9) (d := 23) rfl rfl (by kernel_rfl) (by kernel_rfl) (by kernel_rfl) (fun _ _ _ h => h) (by kernel_rfl) (by assumption) ?_
          simp only [Act.put, List.setIfInBounds_toArray, List.set_cons_zero, List.set_cons_succ]
          refine heldU (i := 10) (d := 24) rfl rfl (by kernel_rfl) (by kernel_rfl) (by kernel_rfl) (fun _ _ _ h => h) (by kernel_rfl) (by assumption) ?_
          simp only [Act.put, List.setIfInBounds_toArray, List.set_cons_zero, List.set_cons_succ]
          refine heldU (i := 11) (d := 25) rfl rfl (by kernel_rfl) (by kernel_rfl) (by kernel_rfl) (fun _ _ _ h => h) (by kernel_rfl) (by assumption) ?_
          simp only [Act.put, List.setIfInBounds_toArray, List.set_cons_zero, List.set_cons_succ]
          refine heldU (i := 12) (d := 26) rfl rfl (by kernel_rfl) (by kernel_rfl) (by kernel_rfl) (fun _ _ _ h => h) (by kernel_rfl) (by assumption) ?_
          simp only [Act.put, List.setIfInBounds_toArray, List.set_cons_zero, List.set_cons_succ]
          refine heldU (i := 13) (d := 27) rfl rfl (by kernel_rfl) (by kernel_rfl) (by kernel_rfl) (fun _ _ _ h => h) (by kernel_rfl) (by assumption) ?_
          simp only [Act.put, List.setIfInBounds_toArray, List.set_cons_zero, List.set_cons_succ]
          refine heldU (i := 14) (d := 28) rfl rfl (by kernel_rfl) (by kernel_rfl) (by kernel_rfl) (fun _ _ _ h => h) (by kernel_rfl) (by assumption) ?_
          simp only [Act.put, List.setIfInBounds_toArray, List.set_cons_zero, List.set_cons_succ]
          refine heldT (i := 15) (d := 29) (v := ?_) rfl rfl (by kernel_rfl) (by kernel_rfl) (by kernel_rfl) (fun _ _ _ h => h) (by kernel_rfl) ?_ (by assumption) ?_
          rotate_left
          · (intro w hSw; (try dsimp only at hSw); go_simp; try with_reducible rfl)
          simp only [Act.put, List.setIfInBounds_toArray, List.set_cons_zero, List.set_cons_succ]
          refine heldT (i := 16) (d := 30) (v := ?_) rfl rfl (by kernel_rfl) (by kernel_rfl) (by kernel_rfl) (fun _ _ _ h => h) (by kernel_rfl) ?_ (by assumption) ?_
          rotate_left
          · (intro w hSw; (try dsimp only at hSw); go_simp; try with_reducible rfl)
          simp only [Act.put, List.setIfInBounds_toArray, List.set_cons_zero, List.set_cons_succ]
          refine wpAnyH_done (by kernel_rfl) ?_ _
          go_split_ands
          go_wp2
          go_roundw
          case rel => exact ⟨1, by omega, by go_num, by assumption, okTo_succ hall.out (sbs_at hx.out) hs (fun i y h => by omega)⟩
          case measure => simp [intOf]; omega
        · obtain ⟨b', off', A2, n2, c2, vv2, g2, t2, e, hbl', c0, c1, c2, I, hn2, ht2, hy⟩ := H.out.at_ (j := m) (by omega)
          simp only [Option.some.injEq, Addr.mk.injEq, and_true] at e
          obtain ⟨rfl, rfl⟩ := e
          have p0 := cell_upC (HB.out.trans (W1.mono HB.out.size)) c0
          have p1 := cell_upC (HB.out.trans (W1.mono HB.out.size)) c1
          have p2 := cell_upC (HB.out.trans (W1.mono HB.out.size)) c2
          have JR := Lib.hid ((I.step HB.out).step W1)
          have P0 := Lib.hid p0
          have P1 := Lib.hid p1
          have P2 := Lib.hid p2
          have i1 : (m : Int) < (n : Int) := by omega
          have hw : IntKind.i64.wrap (m : Int) = (m : Int) := IntWalk.i64_in _ (by omega)
          obtain ⟨z, hz⟩ : ∃ z, cmpS ⟨vv2, g2, t2⟩ ⟨vv, g, t⟩ = z := ⟨_, rfl⟩
          have hone := cmpS_good.one ⟨vv2, g2, t2⟩ ⟨vv, g, t⟩
          rw [hz] at hone
          clear W1 c0 c1 c2 I p0 p1 p2
          by_cases hz1 : z = -1
          · subst hz1
            clear hone
            go_wp2
            refine wp_region_held_drew (S := (fun w' => w'.cell? ⟨wr.heap.size, 0, none⟩ = some (.slice A' n' c') ∧ w'.cell? ⟨wr.heap.size, 1, none⟩ = some (.bool g) ∧ w'.cell? ⟨wr.heap.size, 2, none⟩ = some (.string t) ∧ w'.cell? ⟨b, off + m * 3, none⟩ = some (.slice A2 n2 c2) ∧ w'.cell? ⟨b, off + m * 3 + 1, none⟩ = some (.bool g2) ∧ w'.cell? ⟨b, off + m * 3 + 2, none⟩ = some (.string t2) ∧ Has w' A' n' vv ∧ Has w' A2 n2 vv2 ∧ Below w.heap.size w w')) (by kernel_rfl) ?_ (fun hHeld => ?_)
            · exact ⟨VR.out.c0, VR.out.c1, VR.out.c2, by exact P0.out, by exact P1.out, by exact P2.out, by exact IR.out, by exact JR.out, BR.out.drew⟩
            refine heldT (i := 0) (d := 14) (v := ?_) rfl rfl (by kernel_rfl) (by kernel_rfl) (by kernel_rfl) (fun _ _ _ h => h) (by kernel_rfl) ?_ (by assumption) ?_
            rotate_left
            · (intro w hSw; (try dsimp only at hSw); go_simp; try with_reducible rfl)
            simp only [Act.put, List.setIfInBounds_toArray, List.set_cons_zero, List.set_cons_succ]
            refine wpAnyH_ready (rs := [1]) (by kernel_rfl) (by simp) ?_
            refine AllReadyH.cons rfl (fun K hK => ?_) AllReadyH.nil
            go_simp
            go_at_call 24
            go_split_ands
            refine (isSib_any _ _ _ vv _ _ _ (by assumption) hn').mono ?_
            rintro e w6 ⟨rfl, hb⟩
            rw [hs]
            refine hK.out _ _ ?_ (fun hHeld => ?_)
            · go_split_ands
              exact ⟨cell_upC hb (by assumption), cell_upC hb (by assumption), cell_upC hb (by assumption), cell_upC hb (by assumption), cell_upC hb (by assumption), cell_upC hb (by assumption), Has.step (by assumption) hb, Has.step (by assumption) hb, Below.trans (by assumption) (hb.mono (Below.size (by assumption)))⟩
            clear hK K
            try simp only [Act.put, List.setIfInBounds_toArray, List.set_cons_zero, List.set_cons_succ]
            refine heldT (i := 2) (d := 16) (v := ?_) rfl rfl (by kernel_rfl) (by kernel_rfl) (by kernel_rfl) (fun _ _ _ h => h) (by kernel_rfl) ?_ (by assumption) ?_
            rotate_left
            · (intro w hSw; (try dsimp only at hSw); go_simp; try with_reducible rfl)
            simp only [Act.put, List.setIfInBounds_toArray, List.set_cons_zero, List.set_cons_succ]
            refine heldT (i := 3) (d := 17) (v := ?_) rfl rfl (by kernel_rfl) (by kernel_rfl) (by kernel_rfl) (fun _ _ _ h => h) (by kernel_rfl) ?_ (by assumption) ?_
            rotate_left
            · (intro w hSw; (try dsimp only at hSw); go_simp; try with_reducible rfl)
            simp only [Act.put, List.setIfInBounds_toArray, List.set_cons_zero, List.set_cons_succ]
            refine heldT (i := 4) (d := 18) (v := ?_) rfl rfl (by kernel_rfl) (by kernel_rfl) (by kernel_rfl) (fun _ _ _ h => h) (by kernel_rfl) ?_ (by assumption) ?_
            rotate_left
            · (intro w hSw; (try dsimp only at hSw); go_simp; try with_reducible rfl)
            simp only [Act.put, List.setIfInBounds_toArray, List.set_cons_zero, List.set_cons_succ]
            refine heldT (i := 5) (d := 19) (v := ?_) rfl rfl (by kernel_rfl) (by kernel_rfl) (by kernel_rfl) (fun _ _ _ h => h) (by kernel_rfl) ?_ (by assumption) ?_
            rotate_left
            · (intro w hSw; (try dsimp only at hSw); go_simp; try with_reducible rfl)
            simp only [Act.put, List.setIfInBounds_toArray, List.set_cons_zero, List.set_cons_succ]
            refine heldT (i := 6) (d := 20) (v := ?_) rfl rfl (by kernel_rfl) (by kernel_rfl) (by kernel_rfl) (fun _ _ _ h => h) (by kernel_rfl) ?_ (by assumption) ?_
            rotate_left
            · (intro w hSw; (try dsimp only at hSw); go_simp; try with_reducible rfl)
            simp only [Act.put, List.setIfInBounds_toArray, List.set_cons_zero, List.set_cons_succ]
            refine heldT (i := 7) (d := 21) (v := ?_) rfl rfl (by kernel_rfl) (by kernel_rfl) (by kernel_rfl) (fun _ _ _ h => h) (by kernel_rfl) ?_ (by assumption) ?_
            rotate_left
            · (intro w hSw; (try dsimp only at hSw); go_simp; try with_reducible rfl)
            simp only [Act.put, List.setIfInBounds_toArray, List.set_cons_zero, List.set_cons_succ]
            refine heldT (i := 8) (d := 22) (v := ?_) rfl rfl (by kernel_rfl) (by kernel_rfl) (by kernel_rfl) (fun _ _ _ h => h) (by kernel_rfl) ?_ (by assumption) ?_
            rotate_left
            · (intro w hSw; (try dsimp only at hSw); go_simp; try with_reducible rfl)
            simp only [Act.put, List.setIfInBounds_toArray, List.set_cons_zero, List.set_cons_succ]
            refine heldT (i := 9) (d := 23) (v := ?_) rfl rfl (by kernel_rfl) (by kernel_rfl) (by kernel_rfl) (fun _ _ _ h => h) (by kernel_rfl) ?_ (by assumption) ?_
            rotate_left
            · (intro w hSw; (try dsimp only at hSw); go_simp; try with_reducible rfl)
            simp only [Act.put, List.setIfInBounds_toArray, List.set_cons_zero, List.set_cons_succ]
            refine heldT (i := 10) (d := 24) (v := ?_) rfl rfl (by kernel_rfl) (by kernel_rfl) (by kernel_rfl) (fun _ _ _ h => h) (by kernel_rfl) ?_ (by assumption) ?_
            rotate_left
            · (intro w hSw; (try dsimp only at hSw); go_simp; try with_reducible rfl)
            simp only [Act.put, List.setIfInBounds_toArray, List.set_cons_zero, List.set_cons_succ]
            refine heldT (i := 11) (d := 25) (v := ?_) rfl rfl (by kernel_rfl) (by kernel_rfl) (by kernel_rfl) (fun _ _ _ h => h) (by kernel_rfl) ?_ (by assumption) ?_
            rotate_left
            · (intro w hSw; (try dsimp only at hSw); go_simp; try with_reducible rfl)
            simp only [Act.put, List.setIfInBounds_toArray, List.set_cons_zero, List.set_cons_succ]
            refine heldT (i := 12) (d := 26) (v := ?_) rfl rfl (by kernel_rfl) (by kernel_rfl) (by kernel_rfl) (fun _ _ _ h => h) (by kernel_rfl) ?_ (by assumption) ?_
            rotate_left
            · (intro w hSw; (try dsimp only at hSw); go_simp; try with_reducible rfl)
            simp only [Act.put, List.setIfInBounds_toArray, List.set_cons_zero, List.set_cons_succ]
            refine wpAnyH_ready (rs := [13]) (by kernel_rfl) (by simp) ?_
            refine AllReadyH.cons rfl (fun K hK => ?_) AllReadyH.nil
            go_simp
            go_at_call 25
            go_split_ands
            refine (compareSibs_any _ _ _ _ _ _ vv2 vv _ _ _ _ _ (by assumption) (by assumption) hn2).mono ?_
            rintro e w6 ⟨rfl, hb⟩
            rw [hz]
            refine hK.out _ _ ?_ (fun hHeld => ?_)
            · go_split_ands
              exact ⟨cell_upC hb (by assumption), cell_upC hb (by assumption), cell_upC hb (by assumption), cell_upC hb (by assumption), cell_upC hb (by assumption), cell_upC hb (by assumption), Has.step (by assumption) hb, Has.step (by assumption) hb, Below.trans (by assumption) (hb.mono (Below.size (by assumption)))⟩
            clear hK K
            try simp only [Act.put, List.setIfInBounds_toArray, List.set_cons_zero, List.set_cons_succ]
            refine heldT (i := 14) (d := 28) (v := ?_) rfl rfl (by kernel_rfl) (by kernel_rfl) (by kernel_rfl) (fun _ _ _ h => h) (by kernel_rfl) ?_ (by assumption) ?_
            rotate_left
            · (intro w hSw; (try dsimp only at hSw); go_simp; try with_reducible rfl)
            simp only [Act.put, List.setIfInBounds_toArray, List.set_cons_zero, List.set_cons_succ]
            refine heldT (i := 15) (d := 29) (v := ?_) rfl rfl (by kernel_rfl) (by kernel_rfl) (by kernel_rfl) (fun _ _ _ h => h) (by kernel_rfl) ?_ (by assumption) ?_
            rotate_left
            · (intro w hSw; (try dsimp only at hSw); go_simp; try with_reducible rfl)
            simp only [Act.put, List.setIfInBounds_toArray, List.set_cons_zero, List.set_cons_succ]
            refine heldT (i := 16) (d := 30) (v := ?_) rfl rfl (by kernel_rfl) (by kernel_rfl) (by kernel_rfl) (fun _ _ _ h => h) (by kernel_rfl) ?_ (by assumption) ?_
            rotate_left
            · (intro w hSw; (try dsimp only at hSw); go_simp; try with_reducible rfl)
            simp only [Act.put, List.setIfInBounds_toArray, List.set_cons_zero, List.set_cons_succ]
            refine wpAnyH_done (by kernel_rfl) ?_ _
            go_split_ands
            go_wp2
            go_roundw
            case rel =>
              refine ⟨m + 1 + 1, by omega, by go_num, by assumption, okTo_succ hall.out (sbs_at hx.out) hs (fun i y h hy' => ?_)⟩
              obtain rfl : i = m := by omega
              rw [sbs_at hy.out] at hy'
              injection hy' with hy'
              subst hy'
              exact hz
            case measure => simp [intOf]; omega
          · have hz0 : 0 ≤ z := by omega
            have HZ := Lib.hid hz1
            clear hone hz1
            go_wp2
            refine wp_region_held_drew (S := (fun w' => w'.cell? ⟨wr.heap.size, 0, none⟩ = some (.slice A' n' c') ∧ w'.cell? ⟨wr.heap.size, 1, none⟩ = some (.bool g) ∧ w'.cell? ⟨wr.heap.size, 2, none⟩ = some (.string t) ∧ w'.cell? ⟨b, off + m * 3, none⟩ = some (.slice A2 n2 c2) ∧ w'.cell? ⟨b, off + m * 3 + 1, none⟩ = some (.bool g2) ∧ w'.cell? ⟨b, off + m * 3 + 2, none⟩ = some (.string t2) ∧ Has w' A' n' vv ∧ Has w' A2 n2 vv2 ∧ Below w.heap.size w w')) (by kernel_rfl) ?_ (fun hHeld => ?_)
            · exact ⟨VR.out.c0, VR.out.c1, VR.out.c2, by exact P0.out, by exact P1.out, by exact P2.out, by exact IR.out, by exact JR.out, BR.out.drew⟩
            refine heldT (i := 0) (d := 14) (v := ?_) rfl rfl (by kernel_rfl) (by kernel_rfl) (by kernel_rfl) (fun _ _ _ h => h) (by kernel_rfl) ?_ (by assumption) ?_
            rotate_left
            · (intro w hSw; (try dsimp only at hSw); go_simp; try with_reducible rfl)
            simp only [Act.put, List.setIfInBounds_toArray, List.set_cons_zero, List.set_cons_succ]
            refine wpAnyH_ready (rs := [1]) (by kernel_rfl) (by simp) ?_
            refine AllReadyH.cons rfl (fun K hK => ?_) AllReadyH.nil
            go_simp
            go_at_call 24
            go_split_ands
            refine (isSib_any _ _ _ vv _ _ _ (by assumption) hn').mono ?_
            rintro e w6 ⟨rfl, hb⟩
            rw [hs]
            refine hK.out _ _ ?_ (fun hHeld => ?_)
            · go_split_ands
              exact ⟨cell_upC hb (by assumption), cell_upC hb (by assumption), cell_upC hb (by assumption), cell_upC hb (by assumption), cell_upC hb (by assumption), cell_upC hb (by assumption), Has.step (by assumption) hb, Has.step (by assumption) hb, Below.trans (by assumption) (hb.mono (Below.size (by assumption)))⟩
            clear hK K
            try simp only [Act.put, List.setIfInBounds_toArray, List.set_cons_zero, List.set_cons_succ]
            refine heldT (i := 2) (d := 16) (v := ?_) rfl rfl (by kernel_rfl) (by kernel_rfl) (by kernel_rfl) (fun _ _ _ h => h) (by kernel_rfl) ?_ (by assumption) ?_
            rotate_left
            · (intro w hSw; (try dsimp only at hSw); go_simp; try with_reducible rfl)
            simp only [Act.put, List.setIfInBounds_toArray, List.set_cons_zero, List.set_cons_succ]
            refine heldT (i := 3) (d := 17) (v := ?_) rfl rfl (by kernel_rfl) (by kernel_rfl) (by kernel_rfl) (fun _ _ _ h => h) (by kernel_rfl) ?_ (by assumption) ?_
            rotate_left
            · (intro w hSw; (try dsimp only at hSw); go_simp; try with_reducible rfl)
            simp only [Act.put, List.setIfInBounds_toArray, List.set_cons_zero, List.set_cons_succ]
            refine heldT (i := 4) (d := 18) (v := ?_) rfl rfl (by kernel_rfl) (by kernel_rfl) (by kernel_rfl) (fun _ _ _ h => h) (by kernel_rfl) ?_ (by assumption) ?_
            rotate_left
            · (intro w hSw; (try dsimp only at hSw); go_simp; try with_reducible rfl)
            simp only [Act.put, List.setIfInBounds_toArray, List.set_cons_zero, List.set_cons_succ]
            refine heldT (i := 5) (d := 19) (v := ?_) rfl rfl (by kernel_rfl) (by kernel_rfl) (by kernel_rfl) (fun _ _ _ h => h) (by kernel_rfl) ?_ (by assumption) ?_
            rotate_left
            · (intro w hSw; (try dsimp only at hSw); go_simp; try with_reducible rfl)
            simp only [Act.put, List.setIfInBounds_toArray, List.set_cons_zero, List.set_cons_succ]
            refine heldT (i := 6) (d := 20) (v := ?_) rfl rfl (by kernel_rfl) (by kernel_rfl) (by kernel_rfl) (fun _ _ _ h => h) (by kernel_rfl) ?_ (by assumption) ?_
            rotate_left
            · (intro w hSw; (try dsimp only at hSw); go_simp; try with_reducible rfl)
            simp only [Act.put, List.setIfInBounds_toArray, List.set_cons_zero, List.set_cons_succ]
            refine heldT (i := 7) (d := 21) (v := ?_) rfl rfl (by kernel_rfl) (by kernel_rfl) (by kernel_rfl) (fun _ _ _ h => h) (by kernel_rfl) ?_ (by assumption) ?_
            rotate_left
            · (intro w hSw; (try dsimp only at hSw); go_simp; try with_reducible rfl)
            simp only [Act.put, List.setIfInBounds_toArray, List.set_cons_zero, List.set_cons_succ]
            refine heldT (i := 8) (d := 22) (v := ?_) rfl rfl (by kernel_rfl) (by kernel_rfl) (by kernel_rfl) (fun _ _ _ h => h) (by kernel_rfl) ?_ (by assumption) ?_
            rotate_left
            · (intro w hSw; (try dsimp only at hSw); go_simp; try with_reducible rfl)
            simp only [Act.put, List.setIfInBounds_toArray, List.set_cons_zero, List.set_cons_succ]
            refine heldT (i := 9) (d := 23) (v := ?_) rfl rfl (by kernel_rfl) (by kernel_rfl) (by kernel_rfl) (fun _ _ _ h => h) (by kernel_rfl) ?_ (by assumption) ?_
            rotate_left
            · (intro w hSw; (try dsimp only at hSw); go_simp; try with_reducible rfl)
            simp only [Act.put, List.setIfInBounds_toArray, List.set_cons_zero, List.set_cons_succ]
            refine heldT (i := 10) (d := 24) (v := ?_) rfl rfl (by kernel_rfl) (by kernel_rfl) (by kernel_rfl) (fun _ _ _ h => h) (by kernel_rfl) ?_ (by assumption) ?_
            rotate_left
            · (intro w hSw; (try dsimp only at hSw); go_simp; try with_reducible rfl)
            simp only [Act.put, List.setIfInBounds_toArray, List.set_cons_zero, List.set_cons_succ]
            refine heldT (i := 11) (d := 25) (v := ?_) rfl rfl (by kernel_rfl) (by kernel_rfl) (by kernel_rfl) (fun _ _ _ h => h) (by kernel_rfl) ?_ (by assumption) ?_
            rotate_left
            · (intro w hSw; (try dsimp only at hSw); go_simp; try with_reducible rfl)
            simp only [Act.put, List.setIfInBounds_toArray, List.set_cons_zero, List.set_cons_succ]
            refine heldT (i := 12) (d := 26) (v := ?_) rfl rfl (by kernel_rfl) (by kernel_rfl) (by kernel_rfl) (fun _ _ _ h => h) (by kernel_rfl) ?_ (by assumption) ?_
            rotate_left
            · (intro w hSw; (try dsimp only at hSw); go_simp; try with_reducible rfl)
            simp only [Act.put, List.setIfInBounds_toArray, List.set_cons_zero, List.set_cons_succ]
            refine wpAnyH_ready (rs := [13]) (by kernel_rfl) (by simp) ?_
            refine AllReadyH.cons rfl (fun K hK => ?_) AllReadyH.nil
            go_simp
            go_at_call 25
            go_split_ands
            refine (compareSibs_any _ _ _ _ _ _ vv2 vv _ _ _ _ _ (by assumption) (by assumption) hn2).mono ?_
            rintro e w6 ⟨rfl, hb⟩
            rw [hz]
            refine hK.out _ _ ?_ (fun hHeld => ?_)
            · go_split_ands
              exact ⟨cell_upC hb (by assumption), cell_upC hb (by assumption), cell_upC hb (by assumption), cell_upC hb (by assumption), cell_upC hb (by assumption), cell_upC hb (by assumption), Has.step (by assumption) hb, Has.step (by assumption) hb, Below.trans (by assumption) (hb.mono (Below.size (by assumption)))⟩
            clear hK K
            try simp only [Act.put, List.setIfInBounds_toArray, List.set_cons_zero, List.set_cons_succ]
            refine heldT (i := 14) (d := 28) (v := ?_) rfl rfl (by kernel_rfl) (by kernel_rfl) (by kernel_rfl) (fun _ _ _ h => h) (by kernel_rfl) ?_ (by assumption) ?_
            rotate_left
            · (intro w hSw; (try dsimp only at hSw); go_simp; try with_reducible rfl)
            simp only [Act.put, List.setIfInBounds_toArray, List.set_cons_zero, List.set_cons_succ]
            refine heldT (i := 15) (d := 29) (v := ?_) rfl rfl (by kernel_rfl) (by kernel_rfl) (by kernel_rfl) (fun _ _ _ h => h) (by kernel_rfl) ?_ (by assumption) ?_
            rotate_left
            · (intro w hSw; (try dsimp only at hSw); go_simp; try with_reducible rfl)
            simp only [Act.put, List.setIfInBounds_toArray, List.set_cons_zero, List.set_cons_succ]
            refine heldT (i := 16) (d := 30) (v := ?_) rfl rfl (by kernel_rfl) (by kernel_rfl) (by kernel_rfl) (fun _ _ _ h => h) (by kernel_rfl) ?_ (by assumption) ?_
            rotate_left
            · (intro w hSw; (try dsimp only at hSw); go_simp; try with_reducible rfl)
            simp only [Act.put, List.setIfInBounds_toArray, List.set_cons_zero, List.set_cons_succ]
            refine wpAnyH_done (by kernel_rfl) ?_ _
            go_split_ands
            go_wp2
            go_ret
            exact ⟨ret_bool (sibsOk_bad2 (sbs_at hy.out) (sbs_at hx.out) (by rw [hz]; exact HZ.out)).symm, by assumption⟩
      · have hs' : sibOk ⟨vv, g, t⟩ = false := by simpa using hs
        clear hs W1
        go_wp2
        refine wp_region_held_drew (S := (fun w' => w'.cell? ⟨wr.heap.size, 0, none⟩ = some (.slice A' n' c') ∧ w'.cell? ⟨wr.heap.size, 1, none⟩ = some (.bool g) ∧ w'.cell? ⟨wr.heap.size, 2, none⟩ = some (.string t) ∧ Has w' A' n' vv ∧ Below w.heap.size w w')) (by kernel_rfl) ?_ (fun hHeld => ?_)
        · exact ⟨VR.out.c0, VR.out.c1, VR.out.c2, by exact IR.out, BR.out.drew⟩
        refine heldT (i := 0) (d := 14) (v := ?_) rfl rfl (by kernel_rfl) (by kernel_rfl) (by kernel_rfl) (fun _ _ _ h => h) (by kernel_rfl) ?_ (by assumption) ?_
        rotate_left
        · (intro w hSw; (try dsimp only at hSw); go_simp; try with_reducible rfl)
        simp only [Act.put, List.setIfInBounds_toArray, List.set_cons_zero, List.set_cons_succ]
        refine wpAnyH_ready (rs := [1]) (by kernel_rfl) (by simp) ?_
        refine AllReadyH.cons rfl (fun K hK => ?_) AllReadyH.nil
        go_simp
        go_at_call 24
        go_split_ands
        refine (isSib_any _ _ _ vv _ _ _ (by assumption) hn').mono ?_
        rintro e w6 ⟨rfl, hb⟩
        rw [hs']
        refine hK.out _ _ ?_ (fun hHeld => ?_)
        · go_split_ands
          exact ⟨cell_upC hb (by assumption), cell_upC hb (by assumption), cell_upC hb (by assumption), Has.step (by assumption) hb, Below.trans (by assumption) (hb.mono (Below.size (by assumption)))⟩
        clear hK K
        try simp only [Act.put, List.setIfInBounds_toArray, List.set_cons_zero, List.set_cons_succ]
        refine heldT (i := 2) (d := 16) (v := ?_) rfl rfl (by kernel_rfl) (by kernel_rfl) (by kernel_rfl) (fun _ _ _ h => h) (by kernel_rfl) ?_ (by assumption) ?_
        rotate_left
        · (intro w hSw; (try dsimp only at hSw); go_simp; try with_reducible rfl)
        simp only [Act.put, List.setIfInBounds_toArray, List.set_cons_zero, List.set_cons_succ]
        refine heldT (i := 3) (d := 17) (v := ?_) rfl rfl (by kernel_rfl) (by kernel_rfl) (by kernel_rfl) (fun _ _ _ h => h) (by kernel_rfl) ?_ (by assumption) ?_
        rotate_left
        · (intro w hSw; (try dsimp only at hSw); go_simp; try with_reducible rfl)
        simp only [Act.put, List.setIfInBounds_toArray, List.set_cons_zero, List.set_cons_succ]
        refine heldU (i := 4) (d := 18) rfl rfl (by kernel_rfl) (by kernel_rfl) (by kernel_rfl) (fun _ _ _ h => h) (by kernel_rfl) (by assumption) ?_
        simp only [Act.put, List.setIfInBounds_toArray, List.set_cons_zero, List.set_cons_succ]
        refine heldU (i := 5) (d := 19) rfl rfl (by kernel_rfl) (by kernel_rfl) (by kernel_rfl) (fun _ _ _ h => h) (by kernel_rfl) (by assumption) ?_
        simp only [Act.put, List.setIfInBounds_toArray, List.set_cons_zero, List.set_cons_succ]
        refine heldU (i := 6) (d := 20) rfl rfl (by kernel_rfl) (by kernel_rfl) (by kernel_rfl) (fun _ _ _ h => h) (by kernel_rfl) (by assumption) ?_
        simp only [Act.put, List.setIfInBounds_toArray, List.set_cons_zero, List.set_cons_succ]
        refine heldU (i := 7) (d := 21) rfl rfl (by kernel_rfl) (by kernel_rfl) (by kernel_rfl) (fun _ _ _ h => h) (by kernel_rfl) (by assumption) ?_
        simp only [Act.put, List.setIfInBounds_toArray, List.set_cons_zero, List.set_cons_succ]
        refine heldU (i := 8) (d := 22) rfl rfl (by kernel_rfl) (by kernel_rfl) (by kernel_rfl) (fun _ _ _ h => h) (by kernel_rfl) (by assumption) ?_
        simp only [Act.put, List.setIfInBounds_toArray, List.set_cons_zero, List.set_cons_succ]
        refine heldU (i := 9) (d := 23) rfl rfl (by kernel_rfl) (by kernel_rfl) (by kernel_rfl) (fun _ _ _ h => h) (by kernel_rfl) (by assumption) ?_
        simp only [Act.put, List.setIfInBounds_toArray, List.set_cons_zero, List.set_cons_succ]
        refine heldU (i := 10) (d := 24) rfl rfl (by kernel_rfl) (by kernel_rfl) (by kernel_rfl) (fun _ _ _ h => h) (by kernel_rfl) (by assumption) ?_
        simp only [Act.put, List.setIfInBounds_toArray, List.set_cons_zero, List.set_cons_succ]
        refine heldU (i := 11) (d := 25) rfl rfl (by kernel_rfl) (by kernel_rfl) (by kernel_rfl) (fun _ _ _ h => h) (by kernel_rfl) (by assumption) ?_
        simp only [Act.put, List.setIfInBounds_toArray, List.set_cons_zero, List.set_cons_succ]
        refine heldU (i := 12) (d := 26) rfl rfl (by kernel_rfl) (by kernel_rfl) (by kernel_rfl) (fun _ _ _ h => h) (by kernel_rfl) (by assumption) ?_
        simp only [Act.put, List.setIfInBounds_toArray, List.set_cons_zero, List.set_cons_succ]
        refine heldU (i := 13) (d := 27) rfl rfl (by kernel_rfl) (by kernel_rfl) (by kernel_rfl) (fun _ _ _ h => h) (by kernel_rfl) (by assumption) ?_
        simp only [Act.put, List.setIfInBounds_toArray, List.set_cons_zero, List.set_cons_succ]
        refine heldU (i := 14) (d := 28) rfl rfl (by kernel_rfl) (by kernel_rfl) (by kernel_rfl) (fun _ _ _ h => h) (by kernel_rfl) (by assumption) ?_
        simp only [Act.put, List.setIfInBounds_toArray, List.set_cons_zero, List.set_cons_succ]
        refine heldU (i := 15) (d := 29) rfl rfl (by kernel_rfl) (by kernel_rfl) (by kernel_rfl) (fun _ _ _ h => h) (by kernel_rfl) (by assumption) ?_
        simp only [Act.put, List.setIfInBounds_toArray, List.set_cons_zero, List.set_cons_succ]
        refine heldT (i := 16) (d := 30) (v := ?_) rfl rfl (by kernel_rfl) (by kernel_rfl) (by kernel_rfl) (fun _ _ _ h => h) (by kernel_rfl) ?_ (by assumption) ?_
        rotate_left
        · (intro w hSw; (try dsimp only at hSw); go_simp; try with_reducible rfl)
        simp only [Act.put, List.setIfInBounds_toArray, List.set_cons_zero, List.set_cons_succ]
        refine wpAnyH_done (by kernel_rfl) ?_ _
        go_split_ands
        go_wp2
        go_ret
        exact ⟨ret_bool (sibsOk_bad1 (sbs_at hx.out) hs').symm, by assumption⟩
    · have ALL : Hid (okTo (sbs ks) (sbs ks).length) := Lib.hid (by
        have e : (sbs ks).length = k := by rw [sbs_len, HL.out]; omega
        rw [e]; exact hall.out)
      clear hall
      go_wp2
      go_loopw [34] (fun i wr => ∃ k : Nat, k ≤ n ∧ i = .int .i64 k ∧ Hid (Below w.heap.size w wr) ∧ Hid (∀ j x, j < k → (sbs ks)[j]? = some x → ∀ y ∈ sbs ks, known x y = false)) (fun i _ => n - (intOf i).toNat)
      case atStart => exact ⟨0, Nat.zero_le _, rfl, HB.out, fun j x hj => absurd hj (by omega)⟩
      case round =>
        clear HB
        obtain ⟨k, hk, rfl, HB, hno⟩ := hrel
        by_cases hlt : k < n
        · obtain ⟨b, off, A', n', c', vv, g, t, rfl, hbl, c0, c1, c2, I, hn', ht', hx⟩ := H.out.at_ hlt
          have q0 := cell_upC HB.out c0
          have q1 := cell_upC HB.out c1
          have q2 := cell_upC HB.out c2
          have W1 := bel_alloc wr (.cells #[.slice A' n' c', .bool g, .string t] 43)
          have BR := HB.out.trans (W1.mono HB.out.size)
          have VR := Var3.new 43 wr (.slice A' n' c') (.bool g) (.string t)
          have IR := (I.step HB.out).step W1
          have hok : vvOk vv = true := sibOk_vv (s := ⟨vv, g, t⟩) (okTo_mem ALL.out _ (List.mem_of_getElem? (sbs_at hx.out)))
          have hn3 : n' = 3 := I.len.symm.trans (vvOk_len hok)
          have hcall := containsFunc_any (sup ⟨vv, g, t⟩) 27 #[.pointer (some ⟨wr.heap.size, 0, none⟩)] (enters_of Tryd.func27 (by kernel_rfl) rfl) (some ⟨b, off, none⟩) n c ks _ ((H.out.step HB.out).step W1) HN.out (fun W k' hk' hb => by
            obtain ⟨o0, o1, o2⟩ := H.out.2 k' hk'
            have hok' : vvOk k'.s.vv = true := sibOk_vv (okTo_mem ALL.out _ (List.mem_map.2 ⟨k', hk', rfl⟩))
            exact (areSibs1_any A' k'.A n' k'.n c' k'.c wr.heap.size vv k'.s.vv g k'.s.gone t k'.s.text W (VR.step hb) (IR.step hb) (((show Has w k'.A k'.n k'.s.vv from o0).step BR).step hb) hn3 (o0.len.symm.trans (vvOk_len hok'))).mono fun e w' ⟨he, hb'⟩ => ⟨he, hb.trans (hb'.mono hb.size)⟩)
          have BRH := Lib.hid BR
          have KN : Hid ((sbs ks).any (sup ⟨vv, g, t⟩) = isKnown ⟨vv, g, t⟩ (sbs ks)) := Lib.hid (by
            unfold isKnown
            rw [Bool.eq_iff_iff, List.any_eq_true, List.any_eq_true]
            constructor
            · rintro ⟨y, hy, h⟩; exact ⟨y, hy, by rw [← sup_known hok (sibOk_vv (okTo_mem ALL.out y hy))]; exact h⟩
            · rintro ⟨y, hy, h⟩; exact ⟨y, hy, by rw [sup_known hok (sibOk_vv (okTo_mem ALL.out y hy))]; exact h⟩)
          obtain ⟨z, hz⟩ : ∃ z, (sbs ks).any (sup ⟨vv, g, t⟩) = z := ⟨_, rfl⟩
          rw [hz] at hcall
          have HZ := Lib.hid (KN.out.symm.trans hz)
          clear hz KN c0 c1 c2 I W1 BR VR IR hok hn3
          cases z
          · go_wp2_with (go_at_call 26; refine hcall.mono ?_; rintro e w6 ⟨rfl, hb⟩)
            go_roundw
            case rel =>
              refine ⟨k + 1, by omega, by go_num, BRH.out.trans (hb.mono BRH.out.size), fun j x hj hjx y hy => ?_⟩
              by_cases e : j = k
              · subst e
                rw [sbs_at hx.out] at hjx
                injection hjx with hjx
                subst hjx
                exact isKnown_false.1 HZ.out y hy
              · exact hno.out j x (by omega) hjx y hy
            case measure => simp [intOf]; omega
          · go_wp2_with (go_at_call 26; refine hcall.mono ?_; rintro e w6 ⟨rfl, hb⟩)
            go_ret
            refine ⟨ret_bool ?_, BRH.out.trans (hb.mono BRH.out.size)⟩
            obtain ⟨y, hy, hk⟩ := List.any_eq_true.1 HZ.out
            exact (sibsOk_bad3 (List.mem_of_getElem? (sbs_at hx.out)) hy hk).symm
        · have FIN : Hid (sibsOk (sbs ks) = (decide (1 ≤ n) && decide (n ≤ 12))) := Lib.hid (by
            rw [sibsOk_of_okTo ALL.out (fun x hx y hy => by
              obtain ⟨j, hj, rfl⟩ := List.getElem_of_mem hx
              exact hno.out j _ (by rw [sbs_len, HL.out] at hj; omega) (List.getElem?_eq_getElem hj) y hy), sbs_len, HL.out])
          by_cases h1 : 1 ≤ n
          · by_cases h12 : n ≤ 12
            · go_wp2
              go_ret
              exact ⟨ret_bool (by rw [FIN.out]; simp [h1, h12]; omega), HB.out⟩
            · go_wp2
              go_ret
              exact ⟨ret_bool (by rw [FIN.out]; simp [h12]; omega), HB.out⟩
          · go_wp2
            go_ret
            exact ⟨ret_bool (by rw [FIN.out]; simp [h1]), HB.out⟩

set_option maxRecDepth 100000 in
theorem iSibsOk_any (A : Option Addr) (n c : Nat) (ks : List Kv) (w : World) (h : HasS w A n ks) (hn : n ≤ maxLen) :
    Calls Tryd.prog 7 #[.slice A n c] w fun e w' => e = .returned (.bool (sibsOk (sbs ks))) ∧ Below w.heap.size w w' := by
  have hc := areSibs_any A n c ks w h hn
  clear h
  go_enter Tryd.func7, Tryd.ntmps7
  go_wp2_with fail
  refine hc.mono ?_
  rintro e w' ⟨rfl, hb⟩
  go_wp2
  go_ret
  exact ⟨rfl, hb⟩

end Go.Proofs.YtldnpfkgehgfpaaDoor
