
/-
  Contracts of the drawn trees: l71Tree, DrawTreeOk.
-/
import Derived.Test.YtldnpfkgehgfpaaDoorTreeD
namespace Go.Proofs.YtldnpfkgehgfpaaDoor
open Go.RowKit Go.PlainAid

theorem Strs.row {w w' : World} {b n gg : Nat} (h : Strs w b n) (hf : w'.heap[b]? = w.heap[b]?) (_ : b ≠ gg) : Strs w' b n := fun j hj => by
  obtain ⟨t, h1, h2⟩ := h j hj
  exact ⟨t, (World.cell?_of_block (w := w) (w' := w') (a := ⟨b, j, none⟩) hf).trans h1, h2⟩

set_option maxRecDepth 100000 in
set_option maxHeartbeats 3200000 in
theorem l71Tree_any (g p : Nat) (w : World) (h : Rd w g p) (hp : p ≤ 100000) :
    Calls Tryd.prog 9 #[.pointer (some ⟨g, 0, none⟩)] w fun e w' => ∃ gg c fs, e = .returned (.slice (some ⟨gg, 0, none⟩) fs.length c) ∧ fs.length ≤ 5 ∧ DrawF g w w' gg c fs ∧ ∃ p', p' ≤ p + 700 ∧ Rd w' g p' := by
  have hg := h.lt
  have b0 := bel_alloc w (.cells #[] 29)
  have b1 := bel_alloc (w.alloc (.cells #[] 29)) (.cells #[.string ⟨#[65]⟩, .string ⟨#[66]⟩, .string ⟨#[67]⟩, .string ⟨#[68]⟩] 9)
  have D0 : DrawF g w (w.alloc (.cells #[] 29)) w.heap.size 0 [] := ⟨Gro.of_below b0, World.ownsRow_lit w #[] 0 (Nat.le_refl _) (by unfold maxLen; omega) rfl, (fun k hk => by cases hk)⟩
  have D1 := Lib.hid (D0.below b1 hg)
  have R1 := Lib.hid ((h.below b0).below b1)
  have S1 := Lib.hid (show Strs _ (w.heap.size + 1) 4 by simpa using strs4 (w.alloc (.cells #[] 29)) ⟨#[65]⟩ ⟨#[66]⟩ ⟨#[67]⟩ ⟨#[68]⟩ (by decide) (by decide) (by decide) (by decide))
  clear h b0 b1 D0
  go_enter Tryd.func9, Tryd.ntmps9
  go_wp2
  go_loopw [3, 10] (fun v nv wr => ∃ (k q gg c : Nat) (fs : List Kf), nv = .int .i64 k ∧ k ≤ 4 ∧ v = .slice (some ⟨gg, 0, none⟩) fs.length c ∧ fs.length ≤ k ∧ q ≤ p + 131 * k ∧ gg ≠ w.heap.size + 1 ∧ w.heap.size + 1 < wr.heap.size ∧ Hid (DrawF g w wr gg c fs) ∧ Hid (Strs wr (w.heap.size + 1) 4) ∧ Hid (Rd wr g q)) (fun _ nv _ => 4 - (intOf nv).toNat)
  case atStart => exact ⟨0, p, w.heap.size, 0, [], rfl, by omega, rfl, by simp, by omega, by omega, by simp, D1.out, S1.out, R1.out⟩
  case round =>
    obtain ⟨k, q, gg, c, fs, rfl, hk, rfl, hl, hq, hne, hsz, HD, HS, HR⟩ := hrel
    clear D1 R1 S1
    by_cases hk4 : k < 4
    · obtain ⟨t, ht, hts⟩ := HS.out k hk4
      go_wp2_with fail
      refine (pick_any g q 2 _ HR.out (by omega) (by omega) (by omega)).mono ?_
      rintro e w2 ⟨v2, rfl, hv2, hG, hR⟩
      have D2 := Lib.hid (HD.out.go hG hg)
      have S2 := Lib.hid (HS.out.gro hG hsz (by omega))
      have R2 := Lib.hid hR
      have z2 := hG.size
      clear hG hR ht
      by_cases hv : v2 = 0
      · subst hv
        go_wp2_with fail
        refine (l71Sibs_any g (q + 1) _ R2.out (by omega)).mono ?_
        rintro e w3 ⟨g3, c3, ks, rfl, hl3, hD, q3, hq3, hR⟩
        have L3 := Lib.hid hD
        have D3 := Lib.hid (D2.out.go hD.gro hg)
        have S3 := Lib.hid (S2.out.gro hD.gro (by omega) (by omega))
        have R3 := Lib.hid hR
        have z3 := hD.gro.size
        have zg := (D2.out.row.lt gg rfl).2
        clear hD hR
        go_wp2_with fail
        refine (sSibsOk_any (some ⟨g3, 0, none⟩) ks.length c3 ks _ L3.out.has (by unfold maxLen; omega)).mono ?_
        rintro e w4 ⟨rfl, hb⟩
        have D4 := Lib.hid (D3.out.below hb hg)
        have S4 := Lib.hid (S3.out.gro (Gro.of_below (g := g) hb) (by omega) (by omega))
        have R4 := Lib.hid (R3.out.below hb)
        have F4 := Lib.hid (((L3.out.file (by omega) t (by omega)).below hb (Nat.le_refl _)))
        have z4 := hb.size
        have hs4 := D4.out.gro.size
        clear hb
        obtain ⟨z, hz⟩ : ∃ z, sibsOk (sbs ks) = z := ⟨_, rfl⟩
        rw [hz]
        clear hz
        cases z
        · go_wp2
          go_roundw
          case rel => exact ⟨k + 1, q3, gg, c, fs, by go_num, by omega, rfl, by omega, by omega, hne, by omega, D4.out, S4.out, R4.out⟩
          case measure => simp [intOf]; omega
        · go_wp2_with (at_builtin; go_must (refine app_file _ rfl (.tmp 21) (.tmp 25) rfl w4 w.heap.size hs4 (.slice (some ⟨gg, 0, none⟩) fs.length c) _ _ rfl D4.out.row (by omega) ⟨t, some ⟨g3, 0, none⟩, ks.length, c3, ks⟩ _ rfl rfl rfl ?_; intro g8 c8 w8 ho8 hb8 hs8 hat8 hfr8))
          have D8 := Lib.hid (D4.out.more F4.out (by omega) z4 (.inl (by omega)) ho8 hb8 hs8 (hat8.imp (fun e => by injection e) id) (fun q hq hne => hfr8 q hq (fun e => hne (by injection e))))
          have S8 := Lib.hid (S4.out.row (gg := gg) (hfr8 _ (by omega) (fun e => hne (by injection e))) (fun e => hne e.symm))
          have R8 : Hid (Rd w8 g q3) := Lib.hid (R4.out.keep (fun q hq => hb8.block q (by omega)))
          have ng : g8 ≠ w.heap.size + 1 := by
            rcases hat8 with e | e
            · have e' : gg = g8 := by injection e
              omega
            · omega
          clear ho8 hb8 hat8 hfr8
          go_wp2
          go_roundw
          case rel => exact ⟨k + 1, q3, g8, c8, _, by go_num, by omega, by simp, by simp; omega, by omega, ng, by omega, D8.out, S8.out, R8.out⟩
          case measure => simp [intOf]; omega
      · go_wp2
        go_roundw
        case rel => exact ⟨k + 1, q + 1, gg, c, fs, by go_num, by omega, rfl, by omega, by omega, hne, by omega, D2.out, S2.out, R2.out⟩
        case measure => simp [intOf]; omega
    · obtain rfl : k = 4 := by omega
      clear HS
      go_wp2_with fail
      refine (pick_any g q 24 _ HR.out (by omega) (by omega) (by omega)).mono ?_
      rintro e w2 ⟨v2, rfl, hv2, hG, hR⟩
      have D2 := Lib.hid (HD.out.go hG hg)
      have R2 := Lib.hid hR
      have hs2 := D2.out.gro.size
      clear hG hR
      by_cases hv : v2 = 0
      · subst hv
        go_wp2_with fail
        refine (of_any g (q + 1) w2.heap.size 4 4 _ (R2.out.below (bel_alloc _ _)) (strs4 _ _ _ _ _ (by decide) (by decide) (by decide) (by decide)) (by simp) (by omega) (by omega) (by omega) (by omega)).mono ?_
        rintro e w3 ⟨t, rfl, ht, hG, hR⟩
        have D3 := Lib.hid ((D2.out.below (bel_alloc _ _) hg).go hG hg)
        have R3 := Lib.hid hR
        clear hG hR
        go_wp2_with fail
        refine (l71Sibs_any g (q + 1 + 1) _ R3.out (by omega)).mono ?_
        rintro e w4 ⟨g3, c3, ks, rfl, hl3, hD, q3, hq3, hR⟩
        have zg := (D3.out.row.lt gg rfl).2
        have D4 := Lib.hid (D3.out.go hD.gro hg)
        have F4 := Lib.hid (hD.file (by omega) t (by omega))
        have z3 := D3.out.gro.size
        have hs4 := D4.out.gro.size
        have R4 := Lib.hid hR
        clear hD hR
        go_wp2_with (at_builtin; go_must (refine app_file _ rfl (.tmp 32) (.tmp 39) rfl w4 w.heap.size hs4 (.slice (some ⟨gg, 0, none⟩) fs.length c) _ _ rfl D4.out.row (by omega) ⟨t, some ⟨g3, 0, none⟩, ks.length, c3, ks⟩ _ rfl rfl rfl ?_; intro g8 c8 w8 ho8 hb8 hs8 hat8 hfr8))
        have D8 := Lib.hid (D4.out.more F4.out (by omega) (Nat.le_refl _) (.inl (by omega)) ho8 hb8 hs8 (hat8.imp (fun e => by injection e) id) (fun q hq hne => hfr8 q hq (fun e => hne (by injection e))))
        have R8 : Hid (Rd w8 g q3) := Lib.hid (R4.out.keep (fun q hq => hb8.block q (by omega)))
        clear ho8 hb8 hat8 hfr8
        go_wp2
        go_ret
        exact ⟨g8, c8, _, by simp, by simp; omega, D8.out, _, by omega, R8.out⟩
      · by_cases hv1 : v2 = 1
        · subst hv1
          have zg := (D2.out.row.lt gg rfl).1
          have F2 : Hid ((⟨⟨#[70]⟩, none, 0, 0, []⟩ : Kf).Ok w2 (g + 1) 0) := Lib.hid ⟨Sibs.nil _ _ _ _, by decide, by decide⟩
          go_wp2_with (at_builtin; go_must (refine app_file _ rfl (.tmp 43) (.tmp 45) rfl w2 w.heap.size hs2 (.slice (some ⟨gg, 0, none⟩) fs.length c) _ _ rfl D2.out.row (by omega) ⟨⟨#[70]⟩, none, 0, 0, []⟩ _ rfl rfl rfl ?_; intro g8 c8 w8 ho8 hb8 hs8 hat8 hfr8))
          have D8 := Lib.hid (D2.out.more F2.out (by omega) (Nat.zero_le _) (.inr (Nat.zero_le _)) ho8 hb8 hs8 (hat8.imp (fun e => by injection e) id) (fun q hq hne => hfr8 q hq (fun e => hne (by injection e))))
          have R8 : Hid (Rd w8 g (q + 1)) := Lib.hid (R2.out.keep (fun q hq => hb8.block q (by omega)))
          clear ho8 hb8 hat8 hfr8
          go_wp2
          go_ret
          exact ⟨g8, c8, _, by simp, by simp; omega, D8.out, _, by omega, R8.out⟩
        · go_wp2
          go_ret
          exact ⟨gg, c, fs, rfl, by omega, D2.out, _, by omega, R2.out⟩

set_option maxRecDepth 100000 in
set_option maxHeartbeats 1600000 in
theorem DrawTreeOk_any (A : Option Addr) (n c : Nat) (zs : List Int) (w : World) (h : Came w A n c zs) :
    Calls Tryd.prog 4 #[.slice A n c] w fun e w' => ∃ gg c' fs, e = .returned (.slice (some ⟨gg, 0, none⟩) fs.length c') ∧ fs.length ≤ 6 ∧ fs.length ≤ c' ∧ Below w.heap.size w w' ∧ HasF w' (some ⟨gg, 0, none⟩) fs.length fs := by
  have H := Lib.hid h
  clear h
  go_enter Tryd.func4, Tryd.ntmps4
  go_wp2_with fail
  refine (open_any A n c zs _ H.out).mono ?_
  rintro e w1 ⟨g, rfl, hg, hb, hR⟩
  have B1 := Lib.hid hb
  have R1 := Lib.hid hR
  have hg1 := hR.lt
  have hs := B1.out.size
  clear hb hR
  go_wp2_with fail
  refine (l71Tree_any g 0 _ R1.out (by omega)).mono ?_
  rintro e w2 ⟨gg, c2, fs, rfl, hl, hD, p2, hp2, hR⟩
  have D2 := Lib.hid hD
  have R2 := Lib.hid hR
  clear hD hR
  go_wp2_with fail
  refine (pick_any g p2 5 _ R2.out (by omega) (by omega) (by omega)).mono ?_
  rintro e w3 ⟨v3, rfl, hv3, hG, hR⟩
  have D3 := Lib.hid (D2.out.go hG hg1)
  have R3 := Lib.hid hR
  have hs3 := D3.out.gro.size
  clear hG hR
  by_cases hv : v3 = 0
  · subst hv
    go_wp2_with fail
    refine (of_any g (p2 + 1) w3.heap.size 3 3 _ (R3.out.below (bel_alloc _ _)) (strs3 _ _ _ _ (by decide) (by decide) (by decide)) (by simp) (by omega) (by omega) (by omega) (by omega)).mono ?_
    rintro e w4 ⟨t, rfl, ht, hG, hR⟩
    have D4 := Lib.hid ((D3.out.below (bel_alloc _ _) hg1).go hG hg1)
    have R4 := Lib.hid hR
    clear hG hR
    go_wp2_with fail
    refine (l71Sibs_any g (p2 + 1 + 1) _ R4.out (by omega)).mono ?_
    rintro e w5 ⟨g3, c3, ks, rfl, hl3, hD, q3, hq3, hR⟩
    have zg := (D4.out.row.lt gg rfl).2
    have D5 := Lib.hid (D4.out.go hD.gro hg1)
    have F5 := Lib.hid (hD.file (by omega) t (by omega))
    have z4 := D4.out.gro.size
    have hs5 := D5.out.gro.size
    clear hD hR
    go_wp2_with (at_builtin; go_must (refine app_file _ rfl (.tmp 12) (.tmp 19) rfl w5 w1.heap.size hs5 (.slice (some ⟨gg, 0, none⟩) fs.length c2) _ _ rfl D5.out.row (by omega) ⟨t, some ⟨g3, 0, none⟩, ks.length, c3, ks⟩ _ rfl rfl rfl ?_; intro g8 c8 w8 ho8 hb8 hs8 hat8 hfr8))
    have D8 := Lib.hid (D5.out.more F5.out (by omega) (Nat.le_refl _) (.inl (by omega)) ho8 hb8 hs8 (hat8.imp (fun e => by injection e) id) (fun q hq hne => hfr8 q hq (fun e => hne (by injection e))))
    clear ho8 hb8 hat8 hfr8
    go_wp2
    go_ret
    exact ⟨g8, c8, _, by simp, by simp; omega, by simpa using own_cap D8.out.row, B1.out.trans (D8.out.gro.below hg hs), D8.out.has⟩
  · go_wp2
    go_ret
    exact ⟨gg, c2, fs, rfl, by omega, own_cap D3.out.row, B1.out.trans (D3.out.gro.below hg hs), D3.out.has⟩

end Go.Proofs.YtldnpfkgehgfpaaDoor
