
/-
  The drawn texts of counts; the walks of the laws FnVvBack, FnVvStrict, FnExactVvRead.
-/
import Derived.Test.YtkcoeeekeddgaaaDoorTextG
import Derived.Test.YtkcoeeekeddgaaaDoorLawExVvText
import Derived.Test.YtkcoeeekeddgaaaDoorDrawS
import Derived.Test.YtkcoeeekeddgaaaDoorHeld
namespace Go.Proofs.YtkcoeeekeddgaaaDoor
open Go.RowKit Go.PlainAid

theorem strs5 (w : World) (t0 t1 t2 t3 t4 : ByteArray) (h0 : t0.size ≤ 4) (h1 : t1.size ≤ 4) (h2 : t2.size ≤ 4) (h3 : t3.size ≤ 4) (h4 : t4.size ≤ 4) : Strs (w.alloc (.cells #[.string t0, .string t1, .string t2, .string t3, .string t4] 9)) w.heap.size 5 := by
  have hh := heap_alloc_new w (.cells #[.string t0, .string t1, .string t2, .string t3, .string t4] 9)
  generalize w.alloc (.cells #[.string t0, .string t1, .string t2, .string t3, .string t4] 9) = W at hh ⊢
  intro k hk
  match k, hk with
  | 0, _ => exact ⟨t0, by simp [World.cell?, hh], h0⟩
  | 1, _ => exact ⟨t1, by simp [World.cell?, hh], h1⟩
  | 2, _ => exact ⟨t2, by simp [World.cell?, hh], h2⟩
  | 3, _ => exact ⟨t3, by simp [World.cell?, hh], h3⟩
  | 4, _ => exact ⟨t4, by simp [World.cell?, hh], h4⟩
theorem textV_size (xs : List Int) : (textV xs).size ≤ 9 := by
  unfold textV
  split
  · rename_i h; exact outT_size h 3 (by omega)
  · exact Nat.zero_le _

set_option maxRecDepth 100000 in
set_option maxHeartbeats 1600000 in
theorem DrawVvRead_any (A : Option Addr) (n c : Nat) (zs : List Int) (w : World) (h : Came w A n c zs) :
    Calls Tryd.prog 46 #[.slice A n c] w fun e w' => ∃ t : ByteArray, e = .returned (.string t) ∧ t.size ≤ 1000 ∧ Below w.heap.size w w' := by
  have H := Lib.hid h
  clear h
  go_enter Tryd.func46, Tryd.ntmps46
  go_wp2_with fail
  refine (open_any A n c zs _ H.out).mono ?_
  rintro e w1 ⟨g, rfl, hg, hb, hR⟩
  have B1 := Lib.hid hb
  have R1 := Lib.hid hR
  have s1 := hb.size
  clear hb hR
  go_wp2_with fail
  refine (l71Vv_any g 0 _ R1.out (by omega)).mono ?_
  rintro e w2 ⟨b, x0, x1, x2, hG, hb, hT, ⟨p2, hp2, hR⟩, he⟩
  have B2 := Lib.hid (B1.out.trans (hG.below hg s1))
  have T2 := Lib.hid hT
  have R2 := Lib.hid hR
  have s2 := hG.size
  have hgl := R1.out.lt
  clear hG hT hR
  obtain ⟨A2, n2, c2, xs, rfl, hn2, hI⟩ : ∃ (A2 : Option Addr) (n2 c2 : Nat) (xs : List Int), e = .returned (.slice A2 n2 c2) ∧ n2 ≤ 3 ∧ Has w2 A2 n2 xs := by
    rcases he with rfl | rfl
    · exact ⟨_, 3, 3, _, rfl, by omega, Has.of T2.out.ints (by have := T2.out.lt; omega)⟩
    · exact ⟨_, 2, 2, _, rfl, by omega, Has.of T2.out.ints1 (by have := T2.out.lt; omega)⟩
  have I2 := Lib.hid hI
  clear hI he T2
  go_wp2_with fail
  refine (sVvText_any A2 n2 c2 xs _ I2.out (by unfold maxLen; omega)).mono ?_
  rintro e w3 ⟨rfl, hb⟩
  have hgl2 := R2.out.lt
  have B3 := Lib.hid (B2.out.trans (hb.mono B2.out.size))
  have R3 := Lib.hid (R2.out.below hb)
  have s3 := hb.size
  have hsz := textV_size xs
  obtain ⟨t, ht⟩ : ∃ t, textV xs = t := ⟨_, rfl⟩
  rw [ht] at hsz ⊢
  clear hb I2 ht
  have hw1 : IntKind.i64.wrap ((t.size : Int) + 1) = (t.size : Int) + 1 := IntWalk.i64_in _ (by omega)
  go_wp2_with fail
  refine (pick_any g p2 ((t.size : Int) + 1) _ R3.out (by omega) (by omega) (by omega)).mono ?_
  rintro e w4 ⟨v4, rfl, hv4, hG, hR⟩
  have B4 := Lib.hid (B3.out.trans (hG.below hg (by omega)))
  have R4 := Lib.hid hR
  have s4 := hG.size
  clear hG hR
  go_wp2_with fail
  refine (pick_any g (p2 + 1) 6 _ R4.out (by omega) (by omega) (by omega)).mono ?_
  rintro e w5 ⟨v5, rfl, hv5, hG, hR⟩
  have B5 := Lib.hid (B4.out.trans (hG.below hg (by omega)))
  have R5 := Lib.hid hR
  have s5 := hG.size
  clear hG hR
  have x1 : (t.extract 0 v4).size ≤ 9 := by rw [ByteArray.size_extract]; omega
  have x2 : (t.extract v4 t.size).size ≤ 9 := by rw [ByteArray.size_extract]; omega
  by_cases k0 : v5 = 0
  · subst k0
    go_wp2
    go_ret
    exact ⟨t.extract 0 v4, rfl, by omega, B5.out⟩
  · by_cases k1 : v5 = 1
    · subst k1
      have hg5 : w5.heap.size ≠ g := by omega
      have hv4n : v4 ≤ t.size := by omega
      go_wp2
      -- REGION
      refine wp_region_held_drew (S := (fun w' => Below w.heap.size w w')) (by kernel_rfl) ?_ (fun hHeld => ?_)
      · exact B5.out.drew
      refine heldT (i := 0) (d := 25) (v := ?_) rfl rfl (by kernel_rfl) (by kernel_rfl) (by kernel_rfl) (fun _ _ _ h => h) (by kernel_rfl) ?_ (by assumption) ?_
      rotate_left
      · (intro w hSw; (try dsimp only at hSw); go_simp; try with_reducible rfl)
      simp only [Act.put, List.setIfInBounds_toArray, List.set_cons_zero, List.set_cons_succ]
      refine heldT (i := 1) (d := 26) (v := ?_) rfl rfl (by kernel_rfl) (by kernel_rfl) (by kernel_rfl) (fun _ _ _ h => h) (by kernel_rfl) ?_ (by assumption) ?_
      rotate_left
      · (intro w hSw; (try dsimp only at hSw); go_simp; try with_reducible rfl)
      simp only [Act.put, List.setIfInBounds_toArray, List.set_cons_zero, List.set_cons_succ]
      refine heldT (i := 2) (d := 27) (v := ?_) rfl rfl (by kernel_rfl) (by kernel_rfl) (by kernel_rfl) (fun _ _ _ h => h) (by kernel_rfl) ?_ (by assumption) ?_
      rotate_left
      · (intro w hSw; (try dsimp only at hSw); go_simp; try with_reducible rfl)
      simp only [Act.put, List.setIfInBounds_toArray, List.set_cons_zero, List.set_cons_succ]
      refine heldT (i := 3) (d := 28) (v := ?_) rfl rfl (by kernel_rfl) (by kernel_rfl) (by kernel_rfl) (fun _ _ _ h => h) (by kernel_rfl) ?_ (by assumption) ?_
      rotate_left
      · (intro w hSw; (try dsimp only at hSw); go_simp; try with_reducible rfl)
      simp only [Act.put, List.setIfInBounds_toArray, List.set_cons_zero, List.set_cons_succ]
      refine heldT (i := 7) (d := 32) (v := ?_) rfl rfl (by kernel_rfl) (by kernel_rfl) (by kernel_rfl) (fun _ _ _ h => h) (by kernel_rfl) ?_ (by assumption) ?_
      rotate_left
      · (intro w hSw; (try dsimp only at hSw); go_simp; try with_reducible rfl)
      simp only [Act.put, List.setIfInBounds_toArray, List.set_cons_zero, List.set_cons_succ]
      refine heldT (i := 8) (d := 33) (v := ?_) rfl rfl (by kernel_rfl) (by kernel_rfl) (by kernel_rfl) (fun _ _ _ h => h) (by kernel_rfl) ?_ (by assumption) ?_
      rotate_left
      · (intro w hSw; (try dsimp only at hSw); go_simp; try with_reducible rfl)
      simp only [Act.put, List.setIfInBounds_toArray, List.set_cons_zero, List.set_cons_succ]
      refine heldT (i := 9) (d := 34) (v := ?_) rfl rfl (by kernel_rfl) (by kernel_rfl) (by kernel_rfl) (fun _ _ _ h => h) (by kernel_rfl) ?_ (by assumption) ?_
      rotate_left
      · (intro w hSw; (try dsimp only at hSw); go_simp; try with_reducible rfl)
      simp only [Act.put, List.setIfInBounds_toArray, List.set_cons_zero, List.set_cons_succ]
      refine wpAnyH_ready (rs := [4]) (by kernel_rfl) (by simp) ?_
      refine AllReadyH.cons rfl (fun K hK => ?_) AllReadyH.nil
      go_simp
      have BX : Hid (Below w.heap.size w (w5.alloc (.cells #[.string ⟨#[48]⟩, .string ⟨#[46]⟩, .string ⟨#[49]⟩, .string ⟨#[32]⟩, .string ⟨#[51, 49]⟩] 9)).drew) := Lib.hid ((B5.out.alloc (by omega) (.cells #[.string ⟨#[48]⟩, .string ⟨#[46]⟩, .string ⟨#[49]⟩, .string ⟨#[32]⟩, .string ⟨#[51, 49]⟩] 9)).drew)
      have RX : Hid (Rd (w5.alloc (.cells #[.string ⟨#[48]⟩, .string ⟨#[46]⟩, .string ⟨#[49]⟩, .string ⟨#[32]⟩, .string ⟨#[51, 49]⟩] 9)).drew g (p2 + 1 + 1)) := Lib.hid ((R5.out.below (bel_alloc _ _)).keep fun _ _ => rfl)
      have SX : Hid (Strs (w5.alloc (.cells #[.string ⟨#[48]⟩, .string ⟨#[46]⟩, .string ⟨#[49]⟩, .string ⟨#[32]⟩, .string ⟨#[51, 49]⟩] 9)).drew w5.heap.size 5) := Lib.hid (strs5 w5 _ _ _ _ _ (by decide) (by decide) (by decide) (by decide) (by decide))
      have zX : w5.heap.size < ((w5.alloc (.cells #[.string ⟨#[48]⟩, .string ⟨#[46]⟩, .string ⟨#[49]⟩, .string ⟨#[32]⟩, .string ⟨#[51, 49]⟩] 9)).drew).heap.size := by show _ < (w5.alloc _).heap.size; simp
      obtain ⟨X, hX⟩ : ∃ X, (w5.alloc (.cells #[.string ⟨#[48]⟩, .string ⟨#[46]⟩, .string ⟨#[49]⟩, .string ⟨#[32]⟩, .string ⟨#[51, 49]⟩] 9)).drew = X := ⟨_, rfl⟩
      rw [hX] at BX RX SX zX ⊢
      clear hX
      refine hK.out _ _ ?_ (fun hHeld => ?_)
      · exact BX.out
      clear hK K
      try simp only [Act.put, List.setIfInBounds_toArray, List.set_cons_zero, List.set_cons_succ]
      refine wpAnyH_ready (rs := [5]) (by kernel_rfl) (by simp) ?_
      refine AllReadyH.cons rfl (fun K hK => ?_) AllReadyH.nil
      go_simp
      go_at_call 70
      refine (of_any g (p2 + 1 + 1) w5.heap.size 5 5 _ RX.out SX.out zX hg5 (by omega) (by omega) (by omega)).mono ?_
      rintro e w6 ⟨t2, rfl, ht2, hG, hR⟩
      have B6 := Lib.hid (BX.out.trans (hG.below hg (by omega)))
      have z1 : ¬ 9223372036854775807 < (t.extract 0 v4).size + t2.size := by omega
      have z2 : ¬ 9223372036854775807 < (t.extract 0 v4).size + t2.size + (t.extract v4 t.size).size := by omega
      have z3 : ¬ 9223372036854775807 < (t.extract 0 v4 ++ t2).size + (t.extract v4 t.size).size := by rw [ByteArray.size_append]; omega
      have z4 : ¬ 9223372036854775807 < v4 + t2.size := by omega
      have z5 : ¬ 9223372036854775807 < v4 + t2.size + (t.size - v4) := by omega
      clear hG hR
      refine hK.out _ _ ?_ (fun hHeld => ?_)
      · exact B6.out
      clear hK K
      try simp only [Act.put, List.setIfInBounds_toArray, List.set_cons_zero, List.set_cons_succ]
      refine heldT (i := 6) (d := 31) (v := ?_) rfl rfl (by kernel_rfl) (by kernel_rfl) (by kernel_rfl) (fun _ _ _ h => h) (by kernel_rfl) ?_ (by assumption) ?_
      rotate_left
      · (intro w hSw; (try dsimp only at hSw); go_simp; try with_reducible rfl)
      simp only [Act.put, List.setIfInBounds_toArray, List.set_cons_zero, List.set_cons_succ]
      refine heldT (i := 10) (d := 35) (v := ?_) rfl rfl (by kernel_rfl) (by kernel_rfl) (by kernel_rfl) (fun _ _ _ h => h) (by kernel_rfl) ?_ (by assumption) ?_
      rotate_left
      · (intro w hSw; (try dsimp only at hSw); go_simp; try with_reducible rfl)
      simp only [Act.put, List.setIfInBounds_toArray, List.set_cons_zero, List.set_cons_succ]
      refine heldT (i := 11) (d := 2) (v := ?_) rfl rfl (by kernel_rfl) (by kernel_rfl) (by kernel_rfl) (fun _ _ _ h => h) (by kernel_rfl) ?_ (by assumption) ?_
      rotate_left
      · (intro w hSw; (try dsimp only at hSw); go_simp; try with_reducible rfl)
      simp only [Act.put, List.setIfInBounds_toArray, List.set_cons_zero, List.set_cons_succ]
      refine wpAnyH_done (by kernel_rfl) ?_ _
      -- END
      go_wp2
      go_ret
      exact ⟨t.extract 0 v4 ++ t2 ++ t.extract v4 t.size, rfl, by rw [ByteArray.size_append, ByteArray.size_append]; omega, B6.out⟩
    · go_wp2
      go_ret
      exact ⟨t, rfl, by omega, B5.out⟩

end Go.Proofs.YtkcoeeekeddgaaaDoor
