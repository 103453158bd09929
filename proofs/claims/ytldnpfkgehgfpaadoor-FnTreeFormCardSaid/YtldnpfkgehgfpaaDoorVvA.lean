
/-
  Contracts of the functions on counts that only read: l6In, isVv, VvOk (twice), isSite, l1In, vvIn, eqIntS.
-/
import Derived.Test.YtldnpfkgehgfpaaDoorChecked
import Derived.Test.YtldnpfkgehgfpaaDoorPlain
import Derived.Test.YtldnpfkgehgfpaaDoorMem
import Derived.Deep.QuietTactic
import Derived.BigQuiet
import Derived.Outline
namespace Go.Proofs.YtldnpfkgehgfpaaDoor
open Go.RowKit

set_option maxRecDepth 100000 in
theorem l6In_any (n lo hi : Int) (w : World) :
    Calls Tryd.prog 21 #[.int .i64 n, .int .i64 lo, .int .i64 hi] w fun e w' => e = .returned (.bool (decide (lo ≤ n) && decide (n ≤ hi))) ∧ w = w' := by
  by_cases h1 : lo ≤ n
  · by_cases h2 : n ≤ hi
    · go_enter Tryd.func21, Tryd.ntmps21
      go_wp2
      go_ret
      exact ⟨ret_bool (by rw [Bool.eq_iff_iff]; simp; omega), rfl⟩
    · go_enter Tryd.func21, Tryd.ntmps21
      go_wp2
      go_ret
      exact ⟨ret_bool (by rw [Bool.eq_iff_iff]; simp; omega), rfl⟩
  · go_enter Tryd.func21, Tryd.ntmps21
    go_wp2
    go_ret
    exact ⟨ret_bool (by rw [Bool.eq_iff_iff]; simp; omega), rfl⟩

set_option maxRecDepth 100000 in
theorem isVv_any (A : Option Addr) (n c : Nat) (xs : List Int) (w : World) (lo hi : Nat) (h : Ints w lo hi A n xs) (hn : n ≤ maxLen) :
    Calls Tryd.prog 35 #[.slice A n c] w fun e w' => e = .returned (.bool (vvOk xs)) ∧ w = w' := by
  unfold maxLen at hn
  have HL := Lib.hid h.len
  have HI := Lib.hid h
  clear h
  go_enter Tryd.func35, Tryd.ntmps35
  go_wp2
  go_loop [7] (fun i => ∃ k : Nat, k ≤ n ∧ i = .int .i64 k ∧ Hid (∀ j, j < k → 0 ≤ xs.getD j 0 ∧ xs.getD j 0 ≤ 30)) (fun i => n - (intOf i).toNat)
  case atStart => exact ⟨0, Nat.zero_le _, rfl, fun j hj => absurd hj (by omega)⟩
  case round =>
    obtain ⟨k, hk, rfl, hall⟩ := hrel
    by_cases hlt : k < n
    · obtain ⟨b, off, x, rfl, _, _, hc, hx⟩ := HI.out.at_ hlt
      by_cases h0 : x < 0
      · go_wp2
        go_ret
        exact ⟨ret_bool (vvOk_bad (k := k) (by rw [HL.out]; exact hlt) (by rw [hx.out]; exact .inl h0)).symm, rfl⟩
      · by_cases h30 : 30 < x
        · go_wp2
          go_ret
          exact ⟨ret_bool (vvOk_bad (k := k) (by rw [HL.out]; exact hlt) (by rw [hx.out]; exact .inr h30)).symm, rfl⟩
        · go_wp2
          go_round
          case rel =>
            refine ⟨k + 1, by omega, by go_num, fun j hj => ?_⟩
            by_cases e : j = k
            · subst e; rw [hx.out]; omega
            · exact hall.out j (by omega)
          case measure => simp [intOf]; omega
    · go_wp2
      go_ret
      refine ⟨ret_bool ?_, rfl⟩
      rw [vvOk_all (fun j hj => hall.out j (by rw [HL.out] at hj; omega)), HL.out]
      rw [Bool.eq_iff_iff]; simp; omega

set_option maxRecDepth 100000 in
theorem sVvOk_any (A : Option Addr) (n c : Nat) (xs : List Int) (w : World) (lo hi : Nat) (h : Ints w lo hi A n xs) (hn : n ≤ maxLen) :
    Calls Tryd.prog 31 #[.slice A n c] w fun e w' => e = .returned (.bool (vvOk xs)) ∧ w = w' := by
  unfold maxLen at hn
  have HL := Lib.hid h.len
  have HI := Lib.hid h
  clear h
  go_enter Tryd.func31, Tryd.ntmps31
  go_wp2
  go_loop [3] (fun i => ∃ k : Nat, k ≤ n ∧ i = .int .i64 k ∧ Hid (∀ j, j < k → 0 ≤ xs.getD j 0 ∧ xs.getD j 0 ≤ 30)) (fun i => n - (intOf i).toNat)
  case atStart => exact ⟨0, Nat.zero_le _, rfl, fun j hj => absurd hj (by omega)⟩
  case round =>
    obtain ⟨k, hk, rfl, hall⟩ := hrel
    by_cases hlt : k < n
    · obtain ⟨b, off, x, rfl, _, _, hc, hx⟩ := HI.out.at_ hlt
      by_cases h0 : 0 ≤ x ∧ x ≤ 30
      · have hb : (decide ((0 : Int) ≤ x) && decide (x ≤ 30)) = true := by simpa using h0
        go_wp2_with (go_at_call 21; refine (l6In_any _ _ _ _).mono ?_; rintro e w' ⟨rfl, rfl⟩)
        go_round
        case rel =>
          refine ⟨k + 1, by omega, by go_num, fun j hj => ?_⟩
          by_cases e : j = k
          · subst e; rw [hx.out]; exact h0
          · exact hall.out j (by omega)
        case measure => simp [intOf]; omega
      · have hb : (decide ((0 : Int) ≤ x) && decide (x ≤ 30)) = false := by rw [Bool.eq_false_iff]; simpa using h0
        have hbad : x < 0 ∨ 30 < x := by omega
        have HB := Lib.hid hbad
        clear h0 hbad
        go_wp2_with (go_at_call 21; refine (l6In_any _ _ _ _).mono ?_; rintro e w' ⟨rfl, rfl⟩)
        go_ret
        exact ⟨ret_bool (vvOk_bad (k := k) (by rw [HL.out]; exact hlt) (by rw [hx.out]; exact HB.out)).symm, rfl⟩
    · go_wp2
      go_ret
      refine ⟨ret_bool ?_, rfl⟩
      rw [vvOk_all (fun j hj => hall.out j (by rw [HL.out] at hj; omega)), HL.out]
      rw [Bool.eq_iff_iff]; simp; omega

end Go.Proofs.YtldnpfkgehgfpaaDoor
