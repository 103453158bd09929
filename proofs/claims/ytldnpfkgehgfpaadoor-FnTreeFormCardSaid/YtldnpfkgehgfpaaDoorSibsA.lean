
/-
  Contracts on pairs of versions: slices.Equal, isSuperseded, l2Known; the closures that ask them.
-/
import Derived.Test.YtldnpfkgehgfpaaDoorSibK
import Derived.Test.YtldnpfkgehgfpaaDoorSibC
import Derived.Test.YtldnpfkgehgfpaaDoorSibTrim
import Derived.Test.YtldnpfkgehgfpaaDoorSibD
namespace Go.Proofs.YtldnpfkgehgfpaaDoor
open Go.RowKit Go.PlainAid

set_option maxRecDepth 100000 in
theorem equal_any (A B : Option Addr) (n m c d : Nat) (xs ys : List Int) (w : World) (lo hi lo' hi' : Nat) (h1 : Ints w lo hi A n xs) (h2 : Ints w lo' hi' B m ys) (hn : n ≤ maxLen) :
    Calls Tryd.prog 44 #[.slice A n c, .slice B m d] w fun e w' => e = .returned (.bool (decide (xs = ys))) ∧ ∃ q, w.drewN q = w' := by
  unfold maxLen at hn
  have L1 := Lib.hid h1.len
  have L2 := Lib.hid h2.len
  have H1 := Lib.hid h1
  have H2 := Lib.hid h2
  clear h1 h2
  by_cases hl : n = m
  · subst hl
    go_enter Tryd.func44, Tryd.ntmps44
    go_wp2
    go_loopw [13] (fun i wr => ∃ k : Nat, k ≤ n ∧ i = .int .i64 k ∧ Hid (∃ q, w.drewN q = wr) ∧ Hid (∀ j, j < k → xs.getD j 0 = ys.getD j 0)) (fun i _ => n - (intOf i).toNat)
    case atStart => exact ⟨0, Nat.zero_le _, rfl, ⟨0, rfl⟩, fun j hj => absurd hj (by omega)⟩
    case round =>
      obtain ⟨k, hk, rfl, HW, hall⟩ := hrel
      obtain ⟨q, rfl⟩ := HW.out
      by_cases hlt : k < n
      · obtain ⟨b, off, x, rfl, _, _, hc, hx⟩ := H1.out.at_ hlt
        obtain ⟨b', off', y, rfl, _, _, hc', hy⟩ := H2.out.at_ hlt
        by_cases hxy : x = y
        · subst hxy
          go_wp2
          go_quiet (fail)
          go_wp2
          go_roundw
          case rel =>
            refine ⟨k + 1, by omega, by go_num, ⟨_, rfl⟩, fun j hj => ?_⟩
            by_cases e : j = k
            · subst e; rw [hx.out, hy.out]
            · exact hall.out j (by omega)
          case measure => simp [intOf]; omega
        · have hne : (x != y) = true := by simpa using hxy
          have HN := Lib.hid hxy
          clear hxy
          go_wp2
          go_quiet (fail)
          go_wp2
          go_ret
          exact ⟨ret_bool (by rw [eq_comm, decide_eq_false_iff_not]; exact list_ne (k := k) (by rw [hx.out, hy.out]; exact HN.out)), (by obtain ⟨z, hz⟩ := drew2 w q _; exact ⟨z, hz⟩)⟩
      · go_wp2
        go_ret
        exact ⟨ret_bool (by rw [eq_comm, decide_eq_true_eq]; exact list_eq_iff.2 ⟨by rw [L1.out, L2.out], fun j hj => hall.out j (by rw [L1.out] at hj; omega)⟩), q, rfl⟩
  · have hne : ((n : Int) != (m : Int)) = true := by simp; omega
    have HN := Lib.hid hl
    clear hl
    go_enter Tryd.func44, Tryd.ntmps44
    go_wp2
    go_ret
    exact ⟨ret_bool (by rw [eq_comm, decide_eq_false_iff_not]; intro e; subst e; exact HN.out (L1.out.symm.trans L2.out)), 0, rfl⟩

set_option maxRecDepth 100000 in
/-- isSuperseded. -/
theorem super_any (A B : Option Addr) (n m c d : Nat) (xs ys : List Int) (g g' : Bool) (t u : ByteArray) (w : World) (h1 : Has w A n xs) (h2 : Has w B m ys) (hn : n = 3) (hm : m = 3) :
    Calls Tryd.prog 28 #[.agg #[.slice A n c, .bool g, .string t], .agg #[.slice B m d, .bool g', .string u]] w fun e w' => e = .returned (.bool (sup ⟨xs, g, t⟩ ⟨ys, g', u⟩)) ∧ Below w.heap.size w w' := by
  have b1 := bel_alloc w (.cells #[.slice A n c, .bool g, .string t] 43)
  have b2 := bel_alloc (w.alloc (.cells #[.slice A n c, .bool g, .string t] 43)) (.cells #[.slice B m d, .bool g', .string u] 43)
  have BW := Lib.hid (b1.trans (b2.mono b1.size))
  have I1 := Lib.hid ((h1.step b1).step b2)
  have I2 := Lib.hid ((h2.step b1).step b2)
  have hn' : n ≤ maxLen := by unfold maxLen; omega
  have HN := Lib.hid hn
  have HM := Lib.hid hm
  clear b1 b2 h1 h2 hn hm
  obtain ⟨z, hz⟩ : ∃ z, decide (xs = ys) = z := ⟨_, rfl⟩
  obtain ⟨y, hy⟩ : ∃ y, vvIn xs ys = y := ⟨_, rfl⟩
  have HS : Hid (sup ⟨xs, g, t⟩ ⟨ys, g', u⟩ = (y && !z)) := Lib.hid (by simp only [sup, hz, hy])
  have HY := Lib.hid hy
  have HZ := Lib.hid hz
  clear hy hz
  go_enter Tryd.func28, Tryd.ntmps28
  go_wp2_with fail
  refine (vvIn_any A B n m c d xs ys _ _ _ _ _ I1.out I2.out HN.out HM.out).mono ?_
  rintro e w' ⟨rfl, rfl⟩
  rw [HY.out]
  cases y
  · go_wp2
    go_ret
    exact ⟨ret_bool (by rw [HS.out]; rfl), BW.out⟩
  · go_wp2_with fail
    refine (equal_any A B n m c d xs ys _ _ _ _ _ I1.out I2.out hn').mono ?_
    rintro e w' ⟨rfl, q, rfl⟩
    rw [HZ.out]
    cases z
    all_goals go_wp2
    all_goals go_ret
    all_goals exact ⟨ret_bool (by rw [HS.out]; rfl), bel_drewN BW.out _⟩

set_option maxRecDepth 100000 in
/-- l2Known. -/
theorem known_any (A B : Option Addr) (n m c d : Nat) (xs ys : List Int) (g g' : Bool) (t u : ByteArray) (w : World) (h1 : Has w A n xs) (h2 : Has w B m ys) (hn : n = 3) (hm : m = 3) :
    Calls Tryd.prog 23 #[.agg #[.slice A n c, .bool g, .string t], .agg #[.slice B m d, .bool g', .string u]] w fun e w' => e = .returned (.bool (known ⟨xs, g, t⟩ ⟨ys, g', u⟩)) ∧ Below w.heap.size w w' := by
  have b1 := bel_alloc w (.cells #[.slice A n c, .bool g, .string t] 43)
  have b2 := bel_alloc (w.alloc (.cells #[.slice A n c, .bool g, .string t] 43)) (.cells #[.slice B m d, .bool g', .string u] 43)
  have BW := Lib.hid (b1.trans (b2.mono b1.size))
  have I1 := Lib.hid ((h1.step b1).step b2)
  have I2 := Lib.hid ((h2.step b1).step b2)
  have HN := Lib.hid hn
  have HM := Lib.hid hm
  clear b1 b2 h1 h2 hn hm
  obtain ⟨z, hz⟩ : ∃ z, vvIn ys xs = z := ⟨_, rfl⟩
  obtain ⟨y, hy⟩ : ∃ y, vvIn xs ys = y := ⟨_, rfl⟩
  have HS : Hid (known ⟨xs, g, t⟩ ⟨ys, g', u⟩ = (y && !z)) := Lib.hid (by simp only [known, hz, hy])
  have HY := Lib.hid hy
  have HZ := Lib.hid hz
  clear hy hz
  go_enter Tryd.func23, Tryd.ntmps23
  go_wp2_with fail
  refine (l1In_any A B n m c d xs ys _ _ _ _ _ I1.out I2.out HN.out HM.out).mono ?_
  rintro e w' ⟨rfl, q, rfl⟩
  rw [HY.out]
  cases y
  · go_wp2
    go_ret
    exact ⟨ret_bool (by rw [HS.out]; rfl), bel_drewN BW.out _⟩
  · go_wp2_with fail
    refine (l1In_any B A m n d c ys xs _ _ _ _ _ (by exact I2.out) (by exact I1.out) HM.out HN.out).mono ?_
    rintro e w' ⟨rfl, q', rfl⟩
    rw [HZ.out]
    cases z
    all_goals go_wp2
    all_goals go_ret
    all_goals exact ⟨ret_bool (by rw [HS.out]; rfl), bel_drewN BW.out _⟩

end Go.Proofs.YtldnpfkgehgfpaaDoor
