
/-
  Contracts of decimals: l6Dec (numbers below 100). (Printed by gen/texta.py.)
-/
import Derived.Test.YtkcoeeekeddgaaaDoorDig
import Derived.Test.YtkcoeeekeddgaaaDoorHeld
namespace Go.Proofs.YtkcoeeekeddgaaaDoor
open Go.RowKit Go.PlainAid

set_option maxRecDepth 100000 in
theorem l6Dec1_any (i : Nat) (hi : i < 10) (w : World) :
    Calls Tryd.prog 72 #[.int .i64 i] w fun e w' => e = .returned (.string (dg i)) ∧ Below w.heap.size w w' := by
  have i0 : (0 : Int) ≤ i := by omega
  have i1 : (i : Int) < 10 := by omega
  have hw : IntKind.i64.wrap (48 + (i : Int)) = 48 + (i : Int) := IntWalk.i64_in _ (by omega)
  obtain ⟨b, hb⟩ : ∃ b, UInt8.ofNat (48 + i) = b := ⟨_, rfl⟩
  have hc := conv1 b (48 + (i : Int)) (by rw [← hb]; exact byte48 hi) w
  rw [dg1 hi, hb]
  clear hb
  go_enter Tryd.func72, Tryd.ntmps72
  go_wp2
  go_ret
  exact ⟨rfl, bel_alloc _ _⟩

/-- A byte in a cell, as a text. -/
theorem convAt (b : UInt8) (x : Int) (hx : x = (b.toNat : Int)) (g : Nat) (W : World) (h : W.cell? ⟨g, 0, none⟩ = some (.int .u8 x)) :
    (convert 35 9 (.slice (some ⟨g, 0, none⟩) 1 1)).run Tryd.prog W = .ok (.string ⟨#[b]⟩) W := by
  subst hx
  exact run_convert_bytes_back (P := Tryd.prog) _ 35 9 5 ⟨g, 0, none⟩ 1 [b] Tryd.underlying35 Tryd.underlying5 Tryd.underlying9 (fun j hj => by
    obtain rfl : j = 0 := by simpa using hj
    simpa [Addr.add] using h)
theorem cell_one_u8 (w : World) (x : Int) : (w.alloc (.cells #[.int .u8 x] 5)).cell? ⟨w.heap.size, 0, none⟩ = some (.int .u8 x) := by
  have hh := heap_alloc_new w (.cells #[.int .u8 x] 5)
  generalize w.alloc (.cells #[.int .u8 x] 5) = W at hh ⊢
  simp [World.cell?, hh]

set_option maxRecDepth 100000 in
set_option maxHeartbeats 1600000 in
theorem l6Dec2_any (i : Nat) (h1 : 10 ≤ i) (hi : i < 100) (w : World) :
    Calls Tryd.prog 72 #[.int .i64 i] w fun e w' => e = .returned (.string (dg i)) ∧ Below w.heap.size w w' := by
  have i0 : (0 : Int) ≤ i := by omega
  have i1 : ¬ (i : Int) < 10 := by omega
  have e1 : (i : Int).tdiv 10 = ((i / 10 : Nat) : Int) := by rw [Int.tdiv_eq_ediv_of_nonneg (by omega)]; omega
  have e2 : (i : Int).tmod 10 = ((i % 10 : Nat) : Int) := by rw [Int.tmod_eq_emod_of_nonneg (by omega)]; omega
  obtain ⟨d, hd⟩ : ∃ d, i / 10 = d := ⟨_, rfl⟩
  obtain ⟨r, hr⟩ : ∃ r, i % 10 = r := ⟨_, rfl⟩
  rw [hd] at e1
  rw [hr] at e2
  have hd10 : d < 10 := by omega
  have hr10 : r < 10 := by omega
  have hw : IntKind.i64.wrap (48 + (r : Int)) = 48 + (r : Int) := IntWalk.i64_in _ (by omega)
  have hwd : IntKind.i64.wrap (d : Int) = d := IntWalk.i64_in _ (by omega)
  have hw8 : IntKind.u8.wrap (48 + (r : Int)) = 48 + (r : Int) := IntWalk.u8_in _ (by omega)
  obtain ⟨b, hb⟩ : ∃ b, UInt8.ofNat (48 + r) = b := ⟨_, rfl⟩
  have HX : Hid (48 + (r : Int) = (b.toNat : Int)) := Lib.hid (by rw [← hb]; exact byte48 hr10)
  have hdg := dg2 h1
  rw [hr, hb, hd] at hdg
  have hs := dg_size (i := d) (by omega)
  have HD := Lib.hid hdg
  have hsz : ¬ 9223372036854775807 < (dg d).size + 1 := by omega
  have HC := Lib.hid (fun W => l6Dec1_any d hd10 W)
  have SW := Lib.hid ((Below.refl w.heap.size w).drew)
  clear hb hdg hd hr
  go_enter Tryd.func72, Tryd.ntmps72
  go_wp2
  refine wp_region_held_drew (S := (fun w' => Below w.heap.size w w')) (by kernel_rfl) ?_ (fun hHeld => ?_)
  · exact SW.out
  refine heldT (i := 0) (d := 18) (v := ?_) rfl rfl (by kernel_rfl) (by kernel_rfl) (by kernel_rfl) (fun _ _ _ h => h) (by kernel_rfl) ?_ (by assumption) ?_
  rotate_left
  · (intro w hSw; (try dsimp only at hSw); go_simp; try with_reducible rfl)
  simp only [Act.put, List.setIfInBounds_toArray, List.set_cons_zero, List.set_cons_succ]
  refine heldT (i := 1) (d := 19) (v := ?_) rfl rfl (by kernel_rfl) (by kernel_rfl) (by kernel_rfl) (fun _ _ _ h => h) (by kernel_rfl) ?_ (by assumption) ?_
  rotate_left
  · (intro w hSw; (try dsimp only at hSw); go_simp; try with_reducible rfl)
  simp only [Act.put, List.setIfInBounds_toArray, List.set_cons_zero, List.set_cons_succ]
  refine heldT (i := 3) (d := 21) (v := ?_) rfl rfl (by kernel_rfl) (by kernel_rfl) (by kernel_rfl) (fun _ _ _ h => h) (by kernel_rfl) ?_ (by assumption) ?_
  rotate_left
  · (intro w hSw; (try dsimp only at hSw); go_simp; try with_reducible rfl)
  simp only [Act.put, List.setIfInBounds_toArray, List.set_cons_zero, List.set_cons_succ]
  refine heldT (i := 4) (d := 22) (v := ?_) rfl rfl (by kernel_rfl) (by kernel_rfl) (by kernel_rfl) (fun _ _ _ h => h) (by kernel_rfl) ?_ (by assumption) ?_
  rotate_left
  · (intro w hSw; (try dsimp only at hSw); go_simp; try with_reducible rfl)
  simp only [Act.put, List.setIfInBounds_toArray, List.set_cons_zero, List.set_cons_succ]
  refine heldT (i := 5) (d := 23) (v := ?_) rfl rfl (by kernel_rfl) (by kernel_rfl) (by kernel_rfl) (fun _ _ _ h => h) (by kernel_rfl) ?_ (by assumption) ?_
  rotate_left
  · (intro w hSw; (try dsimp only at hSw); go_simp; try with_reducible rfl)
  simp only [Act.put, List.setIfInBounds_toArray, List.set_cons_zero, List.set_cons_succ]
  refine heldT (i := 6) (d := 24) (v := ?_) rfl rfl (by kernel_rfl) (by kernel_rfl) (by kernel_rfl) (fun _ _ _ h => h) (by kernel_rfl) ?_ (by assumption) ?_
  rotate_left
  · (intro w hSw; (try dsimp only at hSw); go_simp; try with_reducible rfl)
  simp only [Act.put, List.setIfInBounds_toArray, List.set_cons_zero, List.set_cons_succ]
  refine wpAnyH_ready (rs := [2, 7]) (by kernel_rfl) (by simp) ?_
  refine AllReadyH.cons rfl (fun K hK => ?_) (AllReadyH.cons rfl (fun K hK => ?_) AllReadyH.nil)
  · go_simp
    go_at_call 72
    refine (HC.out _).mono ?_
    rintro e w2 ⟨rfl, hb⟩
    have B2 := Lib.hid (SW.out.trans (hb.mono SW.out.size))
    clear hb
    refine hK.out _ _ ?_ (fun hHeld => ?_)
    · exact B2.out
    clear hK K
    try simp only [Act.put, List.setIfInBounds_toArray, List.set_cons_zero, List.set_cons_succ]
    refine wpAnyH_ready (rs := [7]) (by kernel_rfl) (by simp) ?_
    refine AllReadyH.cons rfl (fun K hK => ?_) AllReadyH.nil
    go_simp
    have hcv := conv1 b (48 + (r : Int)) HX.out w2
    have B3 := Lib.hid (B2.out.alloc B2.out.size (.cells #[.int .u8 (48 + (r : Int))] 5))
    refine hK.out _ _ ?_ (fun hHeld => ?_)
    · exact B3.out
    clear hK K
    try simp only [Act.put, List.setIfInBounds_toArray, List.set_cons_zero, List.set_cons_succ]
    refine wpAnyH_ready (rs := [8]) (by kernel_rfl) (by simp) ?_
    refine AllReadyH.cons rfl (fun K hK => ?_) AllReadyH.nil
    go_simp
    refine hK.out _ _ ?_ (fun hHeld => ?_)
    · exact B3.out
    clear hK K
    try simp only [Act.put, List.setIfInBounds_toArray, List.set_cons_zero, List.set_cons_succ]
    refine heldT (i := 9) (d := 27) (v := ?_) rfl rfl (by kernel_rfl) (by kernel_rfl) (by kernel_rfl) (fun _ _ _ h => h) (by kernel_rfl) ?_ (by assumption) ?_
    rotate_left
    · (intro w hSw; (try dsimp only at hSw); go_simp; try with_reducible rfl)
    simp only [Act.put, List.setIfInBounds_toArray, List.set_cons_zero, List.set_cons_succ]
    refine heldT (i := 10) (d := 2) (v := ?_) rfl rfl (by kernel_rfl) (by kernel_rfl) (by kernel_rfl) (fun _ _ _ h => h) (by kernel_rfl) ?_ (by assumption) ?_
    rotate_left
    · (intro w hSw; (try dsimp only at hSw); go_simp; try with_reducible rfl)
    simp only [Act.put, List.setIfInBounds_toArray, List.set_cons_zero, List.set_cons_succ]
    refine wpAnyH_done (by kernel_rfl) ?_ _
    go_wp2
    go_ret
    exact ⟨by rw [HD.out]; rfl, B3.out⟩
  · go_simp
    have BX : Hid (Below w.heap.size w (w.alloc (.cells #[.int .u8 (48 + (r : Int))] 5)).drew) := Lib.hid (((Below.refl w.heap.size w).alloc (Nat.le_refl _) (.cells #[.int .u8 (48 + (r : Int))] 5)).drew)
    have CX : Hid ((w.alloc (.cells #[.int .u8 (48 + (r : Int))] 5)).drew.cell? ⟨w.heap.size, 0, none⟩ = some (.int .u8 (48 + (r : Int)))) := Lib.hid (cell_one_u8 w (48 + (r : Int)))
    obtain ⟨X, hX⟩ : ∃ X, (w.alloc (.cells #[.int .u8 (48 + (r : Int))] 5)).drew = X := ⟨_, rfl⟩
    rw [hX] at BX CX ⊢
    clear hX
    refine hK.out _ _ ?_ (fun hHeld => ?_)
    · exact BX.out
    clear hK K
    try simp only [Act.put, List.setIfInBounds_toArray, List.set_cons_zero, List.set_cons_succ]
    refine wpAnyH_ready (rs := [2, 8]) (by kernel_rfl) (by simp) ?_
    refine AllReadyH.cons rfl (fun K hK => ?_) (AllReadyH.cons rfl (fun K hK => ?_) AllReadyH.nil)
    · go_simp
      go_at_call 72
      refine (HC.out _).mono ?_
      rintro e w2 ⟨rfl, hb⟩
      have B2 := Lib.hid (BX.out.trans (hb.mono BX.out.size))
      have hcv := convAt b (48 + (r : Int)) HX.out w.heap.size w2 ((hb.cell (World.block_lt_of_cell? X _ CX.out)).trans CX.out)
      clear hb
      refine hK.out _ _ ?_ (fun hHeld => ?_)
      · exact B2.out
      clear hK K
      try simp only [Act.put, List.setIfInBounds_toArray, List.set_cons_zero, List.set_cons_succ]
      refine wpAnyH_ready (rs := [8]) (by kernel_rfl) (by simp) ?_
      refine AllReadyH.cons rfl (fun K hK => ?_) AllReadyH.nil
      go_simp
      refine hK.out _ _ ?_ (fun hHeld => ?_)
      · exact B2.out
      clear hK K
      try simp only [Act.put, List.setIfInBounds_toArray, List.set_cons_zero, List.set_cons_succ]
      refine heldT (i := 9) (d := 27) (v := ?_) rfl rfl (by kernel_rfl) (by kernel_rfl) (by kernel_rfl) (fun _ _ _ h => h) (by kernel_rfl) ?_ (by assumption) ?_
      rotate_left
      · (intro w hSw; (try dsimp only at hSw); go_simp; try with_reducible rfl)
      simp only [Act.put, List.setIfInBounds_toArray, List.set_cons_zero, List.set_cons_succ]
      refine heldT (i := 10) (d := 2) (v := ?_) rfl rfl (by kernel_rfl) (by kernel_rfl) (by kernel_rfl) (fun _ _ _ h => h) (by kernel_rfl) ?_ (by assumption) ?_
      rotate_left
      · (intro w hSw; (try dsimp only at hSw); go_simp; try with_reducible rfl)
      simp only [Act.put, List.setIfInBounds_toArray, List.set_cons_zero, List.set_cons_succ]
      refine wpAnyH_done (by kernel_rfl) ?_ _
      go_wp2
      go_ret
      exact ⟨by rw [HD.out]; rfl, B2.out⟩
    · have hcv := convAt b (48 + (r : Int)) HX.out w.heap.size X CX.out
      go_simp
      refine hK.out _ _ ?_ (fun hHeld => ?_)
      · exact BX.out
      clear hK K
      try simp only [Act.put, List.setIfInBounds_toArray, List.set_cons_zero, List.set_cons_succ]
      refine wpAnyH_ready (rs := [2]) (by kernel_rfl) (by simp) ?_
      refine AllReadyH.cons rfl (fun K hK => ?_) AllReadyH.nil
      go_simp
      go_at_call 72
      refine (HC.out _).mono ?_
      rintro e w2 ⟨rfl, hb⟩
      have B2 := Lib.hid (BX.out.trans (hb.mono BX.out.size))
      clear hb
      refine hK.out _ _ ?_ (fun hHeld => ?_)
      · exact B2.out
      clear hK K
      try simp only [Act.put, List.setIfInBounds_toArray, List.set_cons_zero, List.set_cons_succ]
      refine heldT (i := 9) (d := 27) (v := ?_) rfl rfl (by kernel_rfl) (by kernel_rfl) (by kernel_rfl) (fun _ _ _ h => h) (by kernel_rfl) ?_ (by assumption) ?_
      rotate_left
      · (intro w hSw; (try dsimp only at hSw); go_simp; try with_reducible rfl)
      simp only [Act.put, List.setIfInBounds_toArray, List.set_cons_zero, List.set_cons_succ]
      refine heldT (i := 10) (d := 2) (v := ?_) rfl rfl (by kernel_rfl) (by kernel_rfl) (by kernel_rfl) (fun _ _ _ h => h) (by kernel_rfl) ?_ (by assumption) ?_
      rotate_left
      · (intro w hSw; (try dsimp only at hSw); go_simp; try with_reducible rfl)
      simp only [Act.put, List.setIfInBounds_toArray, List.set_cons_zero, List.set_cons_succ]
      refine wpAnyH_done (by kernel_rfl) ?_ _
      go_wp2
      go_ret
      exact ⟨by rw [HD.out]; rfl, B2.out⟩

theorem l6Dec_any (i : Nat) (hi : i < 100) (w : World) :
    Calls Tryd.prog 72 #[.int .i64 i] w fun e w' => e = .returned (.string (dg i)) ∧ Below w.heap.size w w' := by
  by_cases h : i < 10
  · exact l6Dec1_any i h w
  · exact l6Dec2_any i (by omega) hi w

end Go.Proofs.YtkcoeeekeddgaaaDoor
