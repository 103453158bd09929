
/-
  Contracts of the reference's reading of counts: l1Cut, VvRead.
-/
import Derived.Test.YtkcoeeekeddgaaaDoorTextD
namespace Go.Proofs.YtkcoeeekeddgaaaDoor
open Go.RowKit Go.PlainAid

/-! ## l1Cut -/
theorem cutB_point_end : ∀ l : List UInt8, cutB (l ++ [46]) = cutB l ++ [[]]
  | [] => by simp [cutB]
  | a :: r => by
    have ih := cutB_point_end r
    rw [List.cons_append]
    by_cases h : a = 46
    · unfold cutB
      rw [if_pos h, if_pos h, ih]
      rfl
    · unfold cutB
      rw [if_neg h, if_neg h, ih]
      cases hc : cutB r with
      | nil => exact absurd hc (cutB_ne r)
      | cons x y => rfl
theorem cutB_more {b : UInt8} (hb : b ≠ 46) : ∀ l : List UInt8, ∃ init last, cutB l = init ++ [last] ∧ cutB (l ++ [b]) = init ++ [last ++ [b]]
  | [] => ⟨[], [], rfl, by simp [cutB, hb]⟩
  | a :: r => by
    obtain ⟨init, last, e1, e2⟩ := cutB_more hb r
    rw [List.cons_append]
    by_cases h : a = 46
    · refine ⟨[] :: init, last, ?_, ?_⟩
      · conv => lhs; unfold cutB
        rw [if_pos h, e1]; rfl
      · conv => lhs; unfold cutB
        rw [if_pos h, e2]; rfl
    · cases init with
      | nil =>
        refine ⟨[], a :: last, ?_, ?_⟩
        · conv => lhs; unfold cutB
          rw [if_neg h, e1]; rfl
        · conv => lhs; unfold cutB
          rw [if_neg h, e2]; rfl
      | cons x y =>
        refine ⟨(a :: x) :: y, last, ?_, ?_⟩
        · conv => lhs; unfold cutB
          rw [if_neg h, e1]; rfl
        · conv => lhs; unfold cutB
          rw [if_neg h, e2]; rfl
/-- ps is the first k bytes of t, cut. -/
def CutTo (t : ByteArray) (k : Nat) (ps : List ByteArray) : Prop := ps.map (·.data.toList) = cutB (t.data.toList.take k) ∧ 1 ≤ ps.length ∧ ps.length ≤ k + 1 ∧ ∀ p ∈ ps, p.size ≤ k
theorem CutTo.zero (t : ByteArray) : CutTo t 0 [⟨#[]⟩] := ⟨rfl, Nat.le_refl _, Nat.le_refl _, fun p hp => by rw [List.mem_singleton] at hp; subst hp; exact Nat.le_refl _⟩
theorem take_bt {t : ByteArray} {k : Nat} (h : k < t.size) {b : UInt8} (hb : bt t k = (b.toNat : Int)) : t.data.toList.take (k + 1) = t.data.toList.take k ++ [b] := by
  rw [bt_list t h] at hb
  rw [List.take_succ_eq_append_getElem (by simpa using h)]
  congr 2
  exact UInt8.toNat_inj.1 (by omega)
theorem CutTo.point {t : ByteArray} {k : Nat} {ps : List ByteArray} (h : CutTo t k ps) (hk : k < t.size) (hb : bt t k = 46) : CutTo t (k + 1) (ps ++ [⟨#[]⟩]) := by
  obtain ⟨h1, h2, h3, h4⟩ := h
  refine ⟨?_, by simp, by simp; omega, fun p hp => ?_⟩
  · rw [take_bt hk (b := 46) hb, cutB_point_end, ← h1, List.map_append]; rfl
  · rcases List.mem_append.1 hp with hp | hp
    · have := h4 p hp; omega
    · rw [List.mem_singleton] at hp; subst hp; exact Nat.zero_le _
theorem CutTo.more {t : ByteArray} {k : Nat} {ps : List ByteArray} (h : CutTo t k ps) (hk : k < t.size) {b : UInt8} (hb : bt t k = (b.toNat : Int)) (h46 : bt t k ≠ 46) :
    ∃ q, ps[ps.length - 1]? = some q ∧ q.size ≤ k ∧ CutTo t (k + 1) (ps.set (ps.length - 1) (q ++ ⟨#[b]⟩)) := by
  obtain ⟨h1, h2, h3, h4⟩ := h
  obtain ⟨qs, q, rfl⟩ : ∃ qs q, ps = qs ++ [q] := by
    rcases List.eq_nil_or_concat ps with rfl | ⟨qs, q, rfl⟩
    · simp at h2
    · exact ⟨qs, q, by simp⟩
  have hl : (qs ++ [q]).length - 1 = qs.length := by simp
  have hbn : b ≠ 46 := fun e => h46 (by rw [hb, e]; rfl)
  obtain ⟨init, last, e1, e2⟩ := cutB_more hbn (t.data.toList.take k)
  rw [e1, List.map_append] at h1
  have h5 := List.append_inj' h1 rfl
  obtain ⟨h5, h6⟩ := h5
  have h7 : q.data.toList = last := by simpa using h6
  rw [hl]
  refine ⟨q, by simp, h4 q (by simp), ?_, by simp, by simp at h3 ⊢; omega, fun p hp => ?_⟩
  · rw [take_bt hk hb, e2, List.set_append_right _ _ (Nat.le_refl _), Nat.sub_self, List.set_cons_zero, List.map_append, h5, ← h7]
    simp
  · rw [List.set_append_right _ _ (Nat.le_refl _), Nat.sub_self, List.set_cons_zero] at hp
    rcases List.mem_append.1 hp with hp | hp
    · have := h4 p (List.mem_append_left _ hp); omega
    · rw [List.mem_singleton] at hp
      subst hp
      have := h4 q (by simp)
      rw [ByteArray.size_append]
      show q.size + 1 ≤ k + 1
      omega
theorem CutTo.all {t : ByteArray} {ps : List ByteArray} (h : CutTo t t.size ps) : ps.map (·.data.toList) = cutB t.data.toList := by
  have h1 := h.1
  rwa [List.take_of_length_le (by simp)] at h1

theorem cut_set {a X : World} {B g : Nat} (h : Below B a X) (hg : B ≤ g) (n : Nat) (u : Value) : Below B a (X.setCell ⟨g, n, none⟩ u) :=
  ⟨h.os, h.tape, h.output, by simp only [World.setCell]; have := h.size; simpa using this, fun k hk => (Below.heap_setCell X ⟨g, n, none⟩ u k (by simp; omega)).trans (h.block k hk)⟩

set_option maxRecDepth 100000 in
set_option maxHeartbeats 1600000 in
theorem l1Cut_any (t : ByteArray) (w : World) (hs : t.size ≤ 1000) :
    Calls Tryd.prog 68 #[.string t, .int .u8 46] w fun e w' => ∃ (g c : Nat) (ps : List ByteArray), e = .returned (.slice (some ⟨g, 0, none⟩) ps.length c) ∧ Below w.heap.size w w' ∧ w'.ownsRow w.heap.size 9 1 (.slice (some ⟨g, 0, none⟩) ps.length c) ps.length (ps.map Value.string) ∧ ps.map (·.data.toList) = cutB t.data.toList ∧ ∀ p ∈ ps, p.size ≤ t.size := by
  have hb := get_bt t
  go_enter Tryd.func68, Tryd.ntmps68
  go_wp2
  go_loopw [5, 6] (fun v i wr => ∃ (k gg cc m : Nat) (ps : List ByteArray), k ≤ t.size ∧ i = .int .i64 k ∧ v = .slice (some ⟨gg, 0, none⟩) m cc ∧ ps.length = m ∧ Hid (Below w.heap.size w wr) ∧ Hid (wr.ownsRow w.heap.size 9 1 (.slice (some ⟨gg, 0, none⟩) m cc) m (ps.map Value.string)) ∧ Hid (CutTo t k ps)) (fun _ i _ => t.size - (intOf i).toNat)
  case atStart => exact ⟨0, _, 1, 1, [⟨#[]⟩], Nat.zero_le _, rfl, rfl, rfl, bel_alloc _ _, World.ownsRow_lit w #[.string ⟨#[]⟩] 1 (Nat.le_refl _) (by unfold maxLen; omega) rfl, CutTo.zero t⟩
  case round =>
    obtain ⟨k, gg, cc, m, ps, hk, rfl, rfl, hm, HB, HO, HC⟩ := hrel
    have hm1 : 1 ≤ m := by rw [← hm]; exact HC.out.2.1
    have hm2 : m ≤ k + 1 := by rw [← hm]; exact HC.out.2.2.1
    have HM := Lib.hid hm
    have hsz := HB.out.size
    clear hm
    by_cases hlt : k < t.size
    · have b0 := bt_nonneg t k
      have b1 := bt_le t k
      by_cases h46 : bt t k = 46
      · have HN := Lib.hid (HC.out.point hlt h46)
        have hbe : (bt t k == 46) = true := by rw [h46]; rfl
        clear h46
        go_wp2_with (at_builtin; go_must (refine app_str _ rfl (.tmp 19) (.tmp 20) rfl wr w.heap.size hsz gg m cc ps rfl HO.out (by omega) ⟨#[]⟩ _ rfl rfl rfl ?_; intro g8 c8 w8 ho8 hb8 hs8))
        have B8 := Lib.hid (HB.out.trans hb8)
        have O8 := Lib.hid ho8
        clear ho8 hb8 hbe b0 b1
        go_wp2
        go_roundw
        case rel => exact ⟨k + 1, g8, c8, m + 1, ps ++ [ByteArray.mk #[]], by omega, by go_num, by simp, by rw [List.length_append, HM.out]; rfl, B8.out, O8.out, HN.out⟩
        case measure => simp [intOf]; omega
      · obtain ⟨b, hbb⟩ : ∃ b : UInt8, bt t k = (b.toNat : Int) := ⟨t.data.toList[k]'(by simpa using hlt), bt_list t hlt⟩
        obtain ⟨q, hq, hqs, hN⟩ := HC.out.more hlt hbb h46
        rw [HM.out] at hq hN
        have HN := Lib.hid hN
        have HQ := Lib.hid hq
        have HBB := Lib.hid hbb
        have hsl := (HO.out.cellAt (m - 1) (by omega)).trans (show _ = some (Value.string q) by rw [List.getElem?_map, hq]; rfl)
        have hf := HO.out.frozenAt (m - 1)
        have hi0 : IntKind.i64.wrap ((m : Int) - 1) = ((m - 1 : Nat) : Int) := by rw [IntWalk.i64_in _ (by omega)]; omega
        have hlt1 : m - 1 < m := by omega
        have hgg0 := (HO.out.lt gg rfl).1
        have hsq : ¬ 9223372036854775807 < q.size + 1 := by omega
        clear hN hq hbb
        go_wp2
        -- REGION
        refine wp_region_held_drew (S := (fun w' => Below w.heap.size w w')) (by kernel_rfl) ?_ (fun hHeld => ?_)
        · exact HB.out.drew
        refine heldT (i := 0) (d := 22) (v := ?_) rfl rfl (by kernel_rfl) (by kernel_rfl) (by kernel_rfl) (fun _ _ _ h => h) (by kernel_rfl) ?_ (by assumption) ?_
        rotate_left
        · (intro w hSw; (try dsimp only at hSw); go_simp; try with_reducible rfl)
        simp only [Act.put, List.setIfInBounds_toArray, List.set_cons_zero, List.set_cons_succ]
        refine heldT (i := 1) (d := 23) (v := ?_) rfl rfl (by kernel_rfl) (by kernel_rfl) (by kernel_rfl) (fun _ _ _ h => h) (by kernel_rfl) ?_ (by assumption) ?_
        rotate_left
        · (intro w hSw; (try dsimp only at hSw); go_simp; try with_reducible rfl)
        simp only [Act.put, List.setIfInBounds_toArray, List.set_cons_zero, List.set_cons_succ]
        refine heldT (i := 2) (d := 24) (v := ?_) rfl rfl (by kernel_rfl) (by kernel_rfl) (by kernel_rfl) (fun _ _ _ h => h) (by kernel_rfl) ?_ (by assumption) ?_
        rotate_left
        · (intro w hSw; (try dsimp only at hSw); go_simp; try with_reducible rfl)
        simp only [Act.put, List.setIfInBounds_toArray, List.set_cons_zero, List.set_cons_succ]
        refine heldT (i := 3) (d := 25) (v := ?_) rfl rfl (by kernel_rfl) (by kernel_rfl) (by kernel_rfl) (fun _ _ _ h => h) (by kernel_rfl) ?_ (by assumption) ?_
        rotate_left
        · (intro w hSw; (try dsimp only at hSw); go_simp; try with_reducible rfl)
        simp only [Act.put, List.setIfInBounds_toArray, List.set_cons_zero, List.set_cons_succ]
        refine heldT (i := 4) (d := 26) (v := ?_) rfl rfl (by kernel_rfl) (by kernel_rfl) (by kernel_rfl) (fun _ _ _ h => h) (by kernel_rfl) ?_ (by assumption) ?_
        rotate_left
        · (intro w hSw; (try dsimp only at hSw); go_simp; try with_reducible rfl)
        simp only [Act.put, List.setIfInBounds_toArray, List.set_cons_zero, List.set_cons_succ]
        refine heldT (i := 5) (d := 27) (v := ?_) rfl rfl (by kernel_rfl) (by kernel_rfl) (by kernel_rfl) (fun _ _ _ h => h) (by kernel_rfl) ?_ (by assumption) ?_
        rotate_left
        · (intro w hSw; (try dsimp only at hSw); go_simp; try with_reducible rfl)
        simp only [Act.put, List.setIfInBounds_toArray, List.set_cons_zero, List.set_cons_succ]
        refine heldT (i := 6) (d := 28) (v := ?_) rfl rfl (by kernel_rfl) (by kernel_rfl) (by kernel_rfl) (fun _ _ _ h => h) (by kernel_rfl) ?_ (by assumption) ?_
        rotate_left
        · (intro w hSw; (try dsimp only at hSw); go_simp; try with_reducible rfl)
        simp only [Act.put, List.setIfInBounds_toArray, List.set_cons_zero, List.set_cons_succ]
        refine heldT (i := 7) (d := 29) (v := ?_) rfl rfl (by kernel_rfl) (by kernel_rfl) (by kernel_rfl) (fun _ _ _ h => h) (by kernel_rfl) ?_ (by assumption) ?_
        rotate_left
        · (intro w hSw; (try dsimp only at hSw); go_simp; try with_reducible rfl)
        simp only [Act.put, List.setIfInBounds_toArray, List.set_cons_zero, List.set_cons_succ]
        refine heldT (i := 8) (d := 30) (v := ?_) rfl rfl (by kernel_rfl) (by kernel_rfl) (by kernel_rfl) (fun _ _ _ h => h) (by kernel_rfl) ?_ (by assumption) ?_
        rotate_left
        · (intro w hSw; (try dsimp only at hSw); go_simp; try with_reducible rfl)
        simp only [Act.put, List.setIfInBounds_toArray, List.set_cons_zero, List.set_cons_succ]
        refine heldT (i := 10) (d := 32) (v := ?_) rfl rfl (by kernel_rfl) (by kernel_rfl) (by kernel_rfl) (fun _ _ _ h => h) (by kernel_rfl) ?_ (by assumption) ?_
        rotate_left
        · (intro w hSw; (try dsimp only at hSw); go_simp; try with_reducible rfl)
        simp only [Act.put, List.setIfInBounds_toArray, List.set_cons_zero, List.set_cons_succ]
        refine heldT (i := 11) (d := 33) (v := ?_) rfl rfl (by kernel_rfl) (by kernel_rfl) (by kernel_rfl) (fun _ _ _ h => h) (by kernel_rfl) ?_ (by assumption) ?_
        rotate_left
        · (intro w hSw; (try dsimp only at hSw); go_simp; try with_reducible rfl)
        simp only [Act.put, List.setIfInBounds_toArray, List.set_cons_zero, List.set_cons_succ]
        refine heldT (i := 12) (d := 34) (v := ?_) rfl rfl (by kernel_rfl) (by kernel_rfl) (by kernel_rfl) (fun _ _ _ h => h) (by kernel_rfl) ?_ (by assumption) ?_
        rotate_left
        · (intro w hSw; (try dsimp only at hSw); go_simp; try with_reducible rfl)
        simp only [Act.put, List.setIfInBounds_toArray, List.set_cons_zero, List.set_cons_succ]
        refine wpAnyH_ready (rs := [9, 13]) (by kernel_rfl) (by simp) ?_
        refine AllReadyH.cons rfl (fun K hK => ?_) (AllReadyH.cons rfl (fun K hK => ?_) AllReadyH.nil)
        · go_simp
          refine hK.out _ _ ?_ (fun hHeld => ?_)
          · first | exact BS.out | exact HB.out | exact HB.out.drew | exact BS.out.drew
          clear hK K
          try simp only [Act.put, List.setIfInBounds_toArray, List.set_cons_zero, List.set_cons_succ]
          refine wpAnyH_ready (rs := [13]) (by kernel_rfl) (by simp) ?_
          refine AllReadyH.cons rfl (fun K hK => ?_) AllReadyH.nil
          go_simp
          have BX : Hid (Below wr.heap.size wr (wr.alloc (.cells #[.int .u8 (bt t k)] 5)).drew) := Lib.hid (((Below.refl wr.heap.size wr).alloc (Nat.le_refl _) (.cells #[.int .u8 (bt t k)] 5)).drew)
          have CX : Hid ((wr.alloc (.cells #[.int .u8 (bt t k)] 5)).drew.cell? ⟨wr.heap.size, 0, none⟩ = some (.int .u8 (bt t k))) := Lib.hid (cell_one_u8 wr (bt t k))
          have O8 : Hid ((wr.alloc (.cells #[.int .u8 (bt t k)] 5)).drew.ownsRow w.heap.size 9 1 (.slice (some ⟨gg, 0, none⟩) m cc) m (ps.map Value.string)) := Lib.hid ((HO.out.alloc (.cells #[.int .u8 (bt t k)] 5)).drew)
          obtain ⟨X, hX⟩ : ∃ X, (wr.alloc (.cells #[.int .u8 (bt t k)] 5)).drew = X := ⟨_, rfl⟩
          rw [hX] at BX CX O8 ⊢
          clear hX
          have hcv := convAt b (bt t k) HBB.out wr.heap.size X CX.out
          have hsl8 := (BX.out.cell (World.block_lt_of_cell? wr _ hsl)).trans hsl
          have BS := Lib.hid (HB.out.trans (BX.out.mono hsz))
          refine hK.out _ _ ?_ (fun hHeld => ?_)
          · first | exact BS.out | exact HB.out | exact HB.out.drew | exact BS.out.drew
          clear hK K
          try simp only [Act.put, List.setIfInBounds_toArray, List.set_cons_zero, List.set_cons_succ]
          refine wpAnyH_ready (rs := [14]) (by kernel_rfl) (by simp) ?_
          refine AllReadyH.cons rfl (fun K hK => ?_) AllReadyH.nil
          go_simp
          refine hK.out _ _ ?_ (fun hHeld => ?_)
          · first | exact BS.out | exact HB.out | exact HB.out.drew | exact BS.out.drew
          clear hK K
          try simp only [Act.put, List.setIfInBounds_toArray, List.set_cons_zero, List.set_cons_succ]
          refine heldT (i := 15) (d := 37) (v := ?_) rfl rfl (by kernel_rfl) (by kernel_rfl) (by kernel_rfl) (fun _ _ _ h => h) (by kernel_rfl) ?_ (by assumption) ?_
          rotate_left
          · (intro w hSw; (try dsimp only at hSw); go_simp; try with_reducible rfl)
          simp only [Act.put, List.setIfInBounds_toArray, List.set_cons_zero, List.set_cons_succ]
          refine heldT (i := 16) (d := 38) (v := ?_) rfl rfl (by kernel_rfl) (by kernel_rfl) (by kernel_rfl) (fun _ _ _ h => h) (by kernel_rfl) ?_ (by assumption) ?_
          rotate_left
          · (intro w hSw; (try dsimp only at hSw); go_simp; try with_reducible rfl)
          simp only [Act.put, List.setIfInBounds_toArray, List.set_cons_zero, List.set_cons_succ]
          refine wpAnyH_ready (rs := [17]) (by kernel_rfl) (by simp) ?_
          refine AllReadyH.cons rfl (fun K hK => ?_) AllReadyH.nil
          have hf8 := O8.out.frozenAt (m - 1)
          have BE := Lib.hid (cut_set BS.out hgg0 (m - 1) (.string (q ++ ⟨#[b]⟩)))
          have OE := Lib.hid (O8.out.stored (m - 1) (.string (q ++ ⟨#[b]⟩))).1
          go_simp
          obtain ⟨Y, hY⟩ : ∃ Y, X.setCell ⟨gg, m - 1, none⟩ (.string (q ++ ⟨#[b]⟩)) = Y := ⟨_, rfl⟩
          rw [hY] at BE OE ⊢
          clear hY
          refine hK.out _ _ ?_ (fun hHeld => ?_)
          · exact BE.out
          clear hK K
          try simp only [Act.put, List.setIfInBounds_toArray, List.set_cons_zero, List.set_cons_succ]
          refine wpAnyH_done (by kernel_rfl) ?_ _
          go_wp2
          go_roundw
          case rel => exact ⟨k + 1, gg, cc, m, ps.set (m - 1) (q ++ ByteArray.mk #[b]), by omega, by go_num, rfl, by rw [List.length_set, HM.out], BE.out, by rw [List.map_set]; exact OE.out, HN.out⟩
          case measure => simp [intOf]; omega
        · go_simp
          have BX : Hid (Below wr.heap.size wr (wr.alloc (.cells #[.int .u8 (bt t k)] 5)).drew) := Lib.hid (((Below.refl wr.heap.size wr).alloc (Nat.le_refl _) (.cells #[.int .u8 (bt t k)] 5)).drew)
          have CX : Hid ((wr.alloc (.cells #[.int .u8 (bt t k)] 5)).drew.cell? ⟨wr.heap.size, 0, none⟩ = some (.int .u8 (bt t k))) := Lib.hid (cell_one_u8 wr (bt t k))
          have O8 : Hid ((wr.alloc (.cells #[.int .u8 (bt t k)] 5)).drew.ownsRow w.heap.size 9 1 (.slice (some ⟨gg, 0, none⟩) m cc) m (ps.map Value.string)) := Lib.hid ((HO.out.alloc (.cells #[.int .u8 (bt t k)] 5)).drew)
          obtain ⟨X, hX⟩ : ∃ X, (wr.alloc (.cells #[.int .u8 (bt t k)] 5)).drew = X := ⟨_, rfl⟩
          rw [hX] at BX CX O8 ⊢
          clear hX
          have hcv := convAt b (bt t k) HBB.out wr.heap.size X CX.out
          have hsl8 := (BX.out.cell (World.block_lt_of_cell? wr _ hsl)).trans hsl
          have BS := Lib.hid (HB.out.trans (BX.out.mono hsz))
          refine hK.out _ _ ?_ (fun hHeld => ?_)
          · first | exact BS.out | exact HB.out | exact HB.out.drew | exact BS.out.drew
          clear hK K
          try simp only [Act.put, List.setIfInBounds_toArray, List.set_cons_zero, List.set_cons_succ]
          refine wpAnyH_ready (rs := [9, 14]) (by kernel_rfl) (by simp) ?_
          refine AllReadyH.cons rfl (fun K hK => ?_) (AllReadyH.cons rfl (fun K hK => ?_) AllReadyH.nil)
          · go_simp
            refine hK.out _ _ ?_ (fun hHeld => ?_)
            · first | exact BS.out | exact HB.out | exact HB.out.drew | exact BS.out.drew
            clear hK K
            try simp only [Act.put, List.setIfInBounds_toArray, List.set_cons_zero, List.set_cons_succ]
            refine wpAnyH_ready (rs := [14]) (by kernel_rfl) (by simp) ?_
            refine AllReadyH.cons rfl (fun K hK => ?_) AllReadyH.nil
            go_simp
            refine hK.out _ _ ?_ (fun hHeld => ?_)
            · first | exact BS.out | exact HB.out | exact HB.out.drew | exact BS.out.drew
            clear hK K
            try simp only [Act.put, List.setIfInBounds_toArray, List.set_cons_zero, List.set_cons_succ]
            refine heldT (i := 15) (d := 37) (v := ?_) rfl rfl (by kernel_rfl) (by kernel_rfl) (by kernel_rfl) (fun _ _ _ h => h) (by kernel_rfl) ?_ (by assumption) ?_
            rotate_left
            · (intro w hSw; (try dsimp only at hSw); go_simp; try with_reducible rfl)
            simp only [Act.put, List.setIfInBounds_toArray, List.set_cons_zero, List.set_cons_succ]
            refine heldT (i := 16) (d := 38) (v := ?_) rfl rfl (by kernel_rfl) (by kernel_rfl) (by kernel_rfl) (fun _ _ _ h => h) (by kernel_rfl) ?_ (by assumption) ?_
            rotate_left
            · (intro w hSw; (try dsimp only at hSw); go_simp; try with_reducible rfl)
            simp only [Act.put, List.setIfInBounds_toArray, List.set_cons_zero, List.set_cons_succ]
            refine wpAnyH_ready (rs := [17]) (by kernel_rfl) (by simp) ?_
            refine AllReadyH.cons rfl (fun K hK => ?_) AllReadyH.nil
            have hf8 := O8.out.frozenAt (m - 1)
            have BE := Lib.hid (cut_set BS.out hgg0 (m - 1) (.string (q ++ ⟨#[b]⟩)))
            have OE := Lib.hid (O8.out.stored (m - 1) (.string (q ++ ⟨#[b]⟩))).1
            go_simp
            obtain ⟨Y, hY⟩ : ∃ Y, X.setCell ⟨gg, m - 1, none⟩ (.string (q ++ ⟨#[b]⟩)) = Y := ⟨_, rfl⟩
            rw [hY] at BE OE ⊢
            clear hY
            refine hK.out _ _ ?_ (fun hHeld => ?_)
            · exact BE.out
            clear hK K
            try simp only [Act.put, List.setIfInBounds_toArray, List.set_cons_zero, List.set_cons_succ]
            refine wpAnyH_done (by kernel_rfl) ?_ _
            go_wp2
            go_roundw
            case rel => exact ⟨k + 1, gg, cc, m, ps.set (m - 1) (q ++ ByteArray.mk #[b]), by omega, by go_num, rfl, by rw [List.length_set, HM.out], BE.out, by rw [List.map_set]; exact OE.out, HN.out⟩
            case measure => simp [intOf]; omega
          · go_simp
            refine hK.out _ _ ?_ (fun hHeld => ?_)
            · first | exact BS.out | exact HB.out | exact HB.out.drew | exact BS.out.drew
            clear hK K
            try simp only [Act.put, List.setIfInBounds_toArray, List.set_cons_zero, List.set_cons_succ]
            refine wpAnyH_ready (rs := [9]) (by kernel_rfl) (by simp) ?_
            refine AllReadyH.cons rfl (fun K hK => ?_) AllReadyH.nil
            go_simp
            refine hK.out _ _ ?_ (fun hHeld => ?_)
            · first | exact BS.out | exact HB.out | exact HB.out.drew | exact BS.out.drew
            clear hK K
            try simp only [Act.put, List.setIfInBounds_toArray, List.set_cons_zero, List.set_cons_succ]
            refine heldT (i := 15) (d := 37) (v := ?_) rfl rfl (by kernel_rfl) (by kernel_rfl) (by kernel_rfl) (fun _ _ _ h => h) (by kernel_rfl) ?_ (by assumption) ?_
            rotate_left
            · (intro w hSw; (try dsimp only at hSw); go_simp; try with_reducible rfl)
            simp only [Act.put, List.setIfInBounds_toArray, List.set_cons_zero, List.set_cons_succ]
            refine heldT (i := 16) (d := 38) (v := ?_) rfl rfl (by kernel_rfl) (by kernel_rfl) (by kernel_rfl) (fun _ _ _ h => h) (by kernel_rfl) ?_ (by assumption) ?_
            rotate_left
            · (intro w hSw; (try dsimp only at hSw); go_simp; try with_reducible rfl)
            simp only [Act.put, List.setIfInBounds_toArray, List.set_cons_zero, List.set_cons_succ]
            refine wpAnyH_ready (rs := [17]) (by kernel_rfl) (by simp) ?_
            refine AllReadyH.cons rfl (fun K hK => ?_) AllReadyH.nil
            have hf8 := O8.out.frozenAt (m - 1)
            have BE := Lib.hid (cut_set BS.out hgg0 (m - 1) (.string (q ++ ⟨#[b]⟩)))
            have OE := Lib.hid (O8.out.stored (m - 1) (.string (q ++ ⟨#[b]⟩))).1
            go_simp
            obtain ⟨Y, hY⟩ : ∃ Y, X.setCell ⟨gg, m - 1, none⟩ (.string (q ++ ⟨#[b]⟩)) = Y := ⟨_, rfl⟩
            rw [hY] at BE OE ⊢
            clear hY
            refine hK.out _ _ ?_ (fun hHeld => ?_)
            · exact BE.out
            clear hK K
            try simp only [Act.put, List.setIfInBounds_toArray, List.set_cons_zero, List.set_cons_succ]
            refine wpAnyH_done (by kernel_rfl) ?_ _
            go_wp2
            go_roundw
            case rel => exact ⟨k + 1, gg, cc, m, ps.set (m - 1) (q ++ ByteArray.mk #[b]), by omega, by go_num, rfl, by rw [List.length_set, HM.out], BE.out, by rw [List.map_set]; exact OE.out, HN.out⟩
            case measure => simp [intOf]; omega
        -- END
    · obtain rfl : k = t.size := by omega
      go_wp2
      go_ret
      exact ⟨gg, cc, ps, by rw [HM.out]; rfl, HB.out, by rw [HM.out]; exact HO.out, HC.out.all, HC.out.2.2.2⟩

end Go.Proofs.YtkcoeeekeddgaaaDoor
