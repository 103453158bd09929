
/-
  Contracts of VvNext (the program's and the reference's).
-/
import Derived.Test.YtlmjgbonoihccaaDoorVvE
namespace Go.Proofs.YtlmjgbonoihccaaDoor
open Go.RowKit

theorem emptyInts (w : World) : (w.alloc (.cells #[] 3)).ownsRow w.heap.size 3 1 (.slice (some ⟨w.heap.size, 0, none⟩) 0 0) 0 [] :=
  World.ownsRow_lit w #[] 0 (Nat.le_refl _) (by unfold maxLen; omega) rfl
theorem nextOk_iff (xs : List Int) (k : Nat) (hk : k < 3) (h : vvOk xs = true) : nextOk xs ((k : Int) + 1) = decide (xs.getD k 0 < 30) := by
  have e : ((k : Int) + 1 - 1).toNat = k := by omega
  simp [nextOk, h]
  omega
theorem nextOk_site (xs : List Int) (s : Int) (h : ¬ (1 ≤ s ∧ s ≤ 3)) : nextOk xs s = false := by
  simp [nextOk]; omega

set_option maxRecDepth 100000 in
theorem iVvNext_any (A : Option Addr) (n c : Nat) (xs : List Int) (s : Int) (w : World) (lo hi : Nat) (h : Ints w lo hi A n xs) (hn : n ≤ maxLen) (hhi : hi ≤ w.heap.size) :
    Calls Tryd.prog 23 #[.slice A n c, .int .i64 s] w fun e w' => MadeNext w w' xs s e := by
  obtain ⟨i0, hi0, hz0, hz1, hz2⟩ := info_parts infoInt
  have G2 := Lib.hid hz2
  have H := Lib.hid h
  clear h hz2
  by_cases k1 : vvOk xs = true
  · by_cases k2 : 1 ≤ s ∧ s ≤ 3
    · obtain ⟨k, rfl, hk3⟩ : ∃ k : Nat, s = (k : Int) + 1 ∧ k < 3 := ⟨(s - 1).toNat, by omega, by omega⟩
      have n3 : n = 3 := H.out.len.symm.trans (vvOk_len k1)
      have b1 : ((decide (1 ≤ (k : Int) + 1)) && decide ((k : Int) + 1 ≤ 3)) = true := by simp; omega
      obtain ⟨b, off, x, rfl, _, hbh, hc, hx⟩ := H.out.at_ (k := k) (by omega)
      have hx30 := vvOk_at k1 hk3
      have HX30 := Lib.hid hx30
      have e1 : nextOk xs ((k : Int) + 1) = decide (x < 30) := by rw [nextOk_iff xs k hk3 k1, hx.out]
      have E1 := Lib.hid e1
      have N3 := Lib.hid n3
      have i2 : (k : Int) < (n : Int) := by omega
      have x0 : 0 ≤ x ∧ x ≤ 30 := by rw [← hx.out]; exact hx30
      obtain ⟨x1, x2⟩ := x0
      clear n3 hx30 e1 k2
      by_cases hb : x < 30
      · have hbe : (x == 30) = false := by simp; omega
        go_enter Tryd.func23, Tryd.ntmps23
        go_wp2_with fail
        refine (isVv_any _ n c xs _ lo hi H.out hn).mono ?_
        rintro e w' ⟨rfl, rfl⟩
        go_wp2_with fail
        refine (isSite_any _ _).mono ?_
        rintro e w' ⟨rfl, rfl⟩
        go_wp2_with (at_builtin; refine wpList_append_lies _ (by rfl) (.tmp 23) (.tmp 24) 25 (by rfl) w.heap.size 3 i0 (.int .i64 0) 1 8 Tryd.underlying25 hi0 hz0 hz1 G2.out rfl (by decide) _ 0 [] (by rfl) (emptyInts w) ⟨b, off, none⟩ n c (xs.map (Value.int .i64)) (by rfl) (by rw [List.length_map, H.out.len]; omega) (Row.news (Row.below H.out ((Below.refl w.heap.size w).alloc (Nat.le_refl _) _) hhi)) (oneInts xs) (by have := N3.out; omega) (by have := N3.out; unfold maxLen; omega) (by have := N3.out; omega) (by simp) (w.heap.size + 1) (by simp) ?_; intro g cap w1 hown hgrow hat hlt
                     have hown' : OwnInts w1 w.heap.size w1.heap.size (some ⟨g, 0, none⟩) n cap xs := OwnInts.of (by simpa using hown) (Nat.le_refl _)
                     have hb1 : Below w.heap.size w w1 := ((Below.refl w.heap.size w).alloc (Nat.le_refl _) _).grown hgrow (by simp) (fun g hg => ((emptyInts w).lt g hg).1)
                     have hcell := own_cell hown' (k := k) (by have := N3.out; omega)
                     rw [hx.out] at hcell
                     have hfree := own_free hown' k
                     have HO := Lib.hid hown'
                     have HB := Lib.hid hb1
                     clear hown hgrow hat hown' hb1
                     clear hlt)
        go_ret2
        have hset := own_set HO.out k (x + 1)
        have n3 := N3.out
        subst n3
        obtain ⟨g1, hg1, hg2, _⟩ := HO.out.head (by omega)
        have hgl : w.heap.size ≤ g := by simp at hg1; omega
        refine MadeNext.yes (by rw [E1.out]; simpa using hb) (HB.out.setCell (p := ⟨g, k, none⟩) hgl _) (vvOk_len k1) ?_
        have e2 : ((k : Int) + 1 - 1).toNat = k := by omega
        rw [e2, hx.out]
        exact hset.1
      · have hbe : (x == 30) = true := by simp; omega
        go_enter Tryd.func23, Tryd.ntmps23
        go_wp2_with fail
        refine (isVv_any _ n c xs _ lo hi H.out hn).mono ?_
        rintro e w' ⟨rfl, rfl⟩
        go_wp2_with fail
        refine (isSite_any _ _).mono ?_
        rintro e w' ⟨rfl, rfl⟩
        go_wp2
        go_ret2
        exact MadeNext.no_nil _ (by rw [E1.out]; simpa using hb)
    · have b1 : ((decide (1 ≤ s)) && decide (s ≤ 3)) = false := by rw [Bool.eq_false_iff]; simpa using k2
      have K2 := Lib.hid k2
      clear k2
      go_enter Tryd.func23, Tryd.ntmps23
      go_wp2_with fail
      refine (isVv_any A n c xs _ lo hi H.out hn).mono ?_
      rintro e w' ⟨rfl, rfl⟩
      go_wp2_with fail
      refine (isSite_any _ _).mono ?_
      rintro e w' ⟨rfl, rfl⟩
      go_wp2
      go_ret2
      exact MadeNext.no_nil _ (nextOk_site _ _ K2.out)
  · have k1' : vvOk xs = false := by simpa using k1
    clear k1
    go_enter Tryd.func23, Tryd.ntmps23
    go_wp2_with fail
    refine (isVv_any A n c xs _ lo hi H.out hn).mono ?_
    rintro e w' ⟨rfl, rfl⟩
    go_wp2
    go_ret2
    exact MadeNext.no_nil _ (by simp [nextOk, k1'])

end Go.Proofs.YtlmjgbonoihccaaDoor
