
/-
  Contracts on one version: its text, whether it is ok (the reference's).
-/
import Derived.Test.YtldnpfkgehgfpaaDoorSibMem
namespace Go.Proofs.YtldnpfkgehgfpaaDoor
open Go.RowKit Go.PlainAid

set_option maxRecDepth 100000 in
theorem l2Text_any (t : ByteArray) (w : World) (hs : t.size ≤ maxLen) :
    Calls Tryd.prog 32 #[.string t] w fun e w' => e = .returned (.bool (textOk t)) ∧ w = w' := by
  unfold maxLen at hs
  have hb := get_bt t
  go_enter Tryd.func32, Tryd.ntmps32
  go_wp2
  go_loop [3] (fun i => ∃ k : Nat, k ≤ t.size ∧ i = .int .i64 k ∧ Hid (∀ j, j < k → 97 ≤ bt t j ∧ bt t j ≤ 100)) (fun i => t.size - (intOf i).toNat)
  case atStart => exact ⟨0, Nat.zero_le _, rfl, fun j hj => absurd hj (by omega)⟩
  case round =>
    obtain ⟨k, hk, rfl, hall⟩ := hrel
    by_cases hlt : k < t.size
    · have b0 := bt_nonneg t k
      have b1 := bt_le t k
      by_cases h0 : 97 ≤ bt t k ∧ bt t k ≤ 100
      · have hx : (decide ((97 : Int) ≤ bt t k) && decide (bt t k ≤ 100)) = true := by simpa using h0
        go_wp2_with (go_at_call 21; refine (l6In_any _ _ _ _).mono ?_; rintro e w' ⟨rfl, rfl⟩)
        go_round
        case rel =>
          refine ⟨k + 1, by omega, by go_num, fun j hj => ?_⟩
          by_cases e : j = k
          · subst e; exact h0
          · exact hall.out j (by omega)
        case measure => simp [intOf]; omega
      · have hx : (decide ((97 : Int) ≤ bt t k) && decide (bt t k ≤ 100)) = false := by rw [Bool.eq_false_iff]; simpa using h0
        have hbad : bt t k < 97 ∨ 100 < bt t k := by omega
        have HB := Lib.hid hbad
        clear h0 hbad
        go_wp2_with (go_at_call 21; refine (l6In_any _ _ _ _).mono ?_; rintro e w' ⟨rfl, rfl⟩)
        go_ret
        exact ⟨ret_bool (textOk_bad (k := k) hlt HB.out).symm, rfl⟩
    · go_wp2
      go_ret
      refine ⟨ret_bool ?_, rfl⟩
      rw [textOk_all (fun j hj => hall.out j (by omega))]
      rw [Bool.eq_iff_iff]; simp; omega

set_option maxRecDepth 100000 in
theorem sSibOk_any (A : Option Addr) (n c : Nat) (xs : List Int) (g : Bool) (t : ByteArray) (w : World) (h : Has w A n xs) (hn : n ≤ maxLen) (hs : t.size ≤ maxLen) :
    Calls Tryd.prog 18 #[.agg #[.slice A n c, .bool g, .string t]] w fun e w' => e = .returned (.bool (sibOk ⟨xs, g, t⟩)) ∧ Below w.heap.size w w' := by
  have H := Lib.hid (h.step (bel_alloc w (.cells #[.slice A n c, .bool g, .string t] 43)))
  clear h
  obtain ⟨e0, he0⟩ : ∃ b, t.toList.isEmpty = b := ⟨_, rfl⟩
  have HE := Lib.hid ((isEmpty_size t).symm.trans he0)
  by_cases k1 : vvOk xs = true
  · by_cases k2 : textOk t = true
    · go_enter Tryd.func18, Tryd.ntmps18
      go_wp2_with fail
      refine (sVvOk_any A n c xs _ _ _ H.out hn).mono ?_
      rintro e w' ⟨rfl, rfl⟩
      go_wp2_with fail
      refine (l2Text_any t _ hs).mono ?_
      rintro e w' ⟨rfl, rfl⟩
      cases g <;> cases e0
      all_goals go_wp2
      all_goals go_ret
      all_goals exact ⟨ret_bool (by simp [sibOk, k1, k2, HE.out]), bel_alloc _ _⟩
    · have k2' : textOk t = false := by simpa using k2
      clear k2
      go_enter Tryd.func18, Tryd.ntmps18
      go_wp2_with fail
      refine (sVvOk_any A n c xs _ _ _ H.out hn).mono ?_
      rintro e w' ⟨rfl, rfl⟩
      go_wp2_with fail
      refine (l2Text_any t _ hs).mono ?_
      rintro e w' ⟨rfl, rfl⟩
      go_wp2
      go_ret
      exact ⟨ret_bool (by simp [sibOk, k1, k2']), bel_alloc _ _⟩
  · have k1' : vvOk xs = false := by simpa using k1
    clear k1
    go_enter Tryd.func18, Tryd.ntmps18
    go_wp2_with fail
    refine (sVvOk_any A n c xs _ _ _ H.out hn).mono ?_
    rintro e w' ⟨rfl, rfl⟩
    go_wp2
    go_ret
    exact ⟨ret_bool (by simp [sibOk, k1']), bel_alloc _ _⟩

end Go.Proofs.YtldnpfkgehgfpaaDoor
