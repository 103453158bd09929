
/-
  Contracts of the functions on two lists of counts that only read: eqIntS, lvInts, l1In, vvIn, VvIn (twice), isSite.
-/
import Derived.Test.YtldnpfkgehgfpaaDoorVvA
namespace Go.Proofs.YtldnpfkgehgfpaaDoor
open Go.RowKit

set_option maxRecDepth 100000 in
theorem l1In_any (A B : Option Addr) (n m c d : Nat) (xs ys : List Int) (w : World) (lo hi lo' hi' : Nat) (h1 : Ints w lo hi A n xs) (h2 : Ints w lo' hi' B m ys) (hn : n = 3) (hm : m = 3) :
    Calls Tryd.prog 34 #[.slice A n c, .slice B m d] w fun e w' => e = .returned (.bool (vvIn xs ys)) ∧ ∃ q, w.drewN q = w' := by
  have L1 := Lib.hid h1.len
  have L2 := Lib.hid h2.len
  have H1 := Lib.hid h1
  have H2 := Lib.hid h2
  have L : xs.length = ys.length := by rw [L1.out, L2.out, hn, hm]
  have HN := Lib.hid hn
  have HL := Lib.hid L
  have g1 : 3 ≤ n := by omega
  have g2 : 3 ≤ m := by omega
  clear h1 h2 hn hm L
  go_enter Tryd.func34, Tryd.ntmps34
  go_wp2
  go_loopw [5] (fun i wr => ∃ k q : Nat, k ≤ 3 ∧ i = .int .i64 k ∧ w.drewN q = wr ∧ Hid (∀ j, j < k → xs.getD j 0 ≤ ys.getD j 0)) (fun i _ => 3 - (intOf i).toNat)
  case atStart => exact ⟨0, 0, Nat.zero_le _, rfl, rfl, fun j hj => absurd hj (by omega)⟩
  case round =>
    obtain ⟨k, q, hk, rfl, rfl, hall⟩ := hrel
    by_cases hlt : k < 3
    · obtain ⟨b, off, x, rfl, _, _, hc, hx⟩ := H1.out.at_ (k := k) (by omega)
      obtain ⟨b', off', y, rfl, _, _, hc', hy⟩ := H2.out.at_ (k := k) (by omega)
      have i1 : (k : Int) < (n : Int) := by omega
      have i2 : (k : Int) < (m : Int) := by omega
      by_cases hxy : y < x
      · have hb : decide (y < x) = true := by simpa using hxy
        go_wp2
        go_quiet (fail)
        go_wp2
        go_ret
        refine ⟨ret_bool ?_, drew2 _ _ _⟩
        exact (vvIn_no HL.out (k := k) (by rw [L1.out]; omega) (by rw [hx.out, hy.out]; exact hxy)).symm
      · have hb : decide (y < x) = false := by simpa using hxy
        go_wp2
        go_quiet (fail)
        go_wp2
        go_roundw
        case rel =>
          refine ⟨k + 1, _, by omega, by go_num, rfl, fun j hj => ?_⟩
          by_cases e : j = k
          · subst e; rw [hx.out, hy.out]; omega
          · exact hall.out j (by omega)
        case measure => simp [intOf]; omega
    · go_wp2
      go_ret
      refine ⟨ret_bool ?_, _, rfl⟩
      rw [eq_comm, vvIn_iff HL.out]
      exact fun j hj => hall.out j (by rw [L1.out, HN.out] at hj; omega)

set_option maxRecDepth 100000 in
theorem vvIn_any (A B : Option Addr) (n m c d : Nat) (xs ys : List Int) (w : World) (lo hi lo' hi' : Nat) (h1 : Ints w lo hi A n xs) (h2 : Ints w lo' hi' B m ys) (hn : n = 3) (hm : m = 3) :
    Calls Tryd.prog 43 #[.slice A n c, .slice B m d] w fun e w' => e = .returned (.bool (vvIn xs ys)) ∧ w = w' := by
  have L1 := Lib.hid h1.len
  have L2 := Lib.hid h2.len
  have H1 := Lib.hid h1
  have H2 := Lib.hid h2
  have L : xs.length = ys.length := by rw [L1.out, L2.out, hn, hm]
  have HN := Lib.hid hn
  have HL := Lib.hid L
  have g1 : 3 ≤ n := by omega
  have g0 : n ≤ 3 := by omega
  have g2 : 3 ≤ m := by omega
  clear h1 h2 hn hm L
  go_enter Tryd.func43, Tryd.ntmps43
  go_wp2
  go_loop [9] (fun i => ∃ k : Nat, k ≤ n ∧ i = .int .i64 k ∧ Hid (∀ j, j < k → xs.getD j 0 ≤ ys.getD j 0)) (fun i => n - (intOf i).toNat)
  case atStart => exact ⟨0, Nat.zero_le _, rfl, fun j hj => absurd hj (by omega)⟩
  case round =>
    obtain ⟨k, hk, rfl, hall⟩ := hrel
    by_cases hlt : k < n
    · obtain ⟨b, off, x, rfl, _, _, hc, hx⟩ := H1.out.at_ (k := k) (by omega)
      obtain ⟨b', off', y, rfl, _, _, hc', hy⟩ := H2.out.at_ (k := k) (by omega)
      have i2 : (k : Int) < (m : Int) := by omega
      by_cases hxy : y < x
      · go_wp2
        go_ret
        refine ⟨ret_bool ?_, rfl⟩
        exact (vvIn_no HL.out (k := k) (by rw [L1.out]; omega) (by rw [hx.out, hy.out]; exact hxy)).symm
      · go_wp2
        go_round
        case rel =>
          refine ⟨k + 1, by omega, by go_num, fun j hj => ?_⟩
          by_cases e : j = k
          · subst e; rw [hx.out, hy.out]; omega
          · exact hall.out j (by omega)
        case measure => simp [intOf]; omega
    · go_wp2
      go_ret
      refine ⟨ret_bool ?_, rfl⟩
      rw [eq_comm, vvIn_iff HL.out]
      exact fun j hj => hall.out j (by rw [L1.out] at hj; omega)

end Go.Proofs.YtldnpfkgehgfpaaDoor
