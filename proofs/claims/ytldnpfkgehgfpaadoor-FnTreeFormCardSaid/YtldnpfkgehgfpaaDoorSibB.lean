
/-
  Contracts of the comparisons: cmp.Compare (numbers, texts), cmp.Or, slices.Compare, slices.Equal.
-/
import Derived.Test.YtldnpfkgehgfpaaDoorSibMem
namespace Go.Proofs.YtldnpfkgehgfpaaDoor
open Go.RowKit Go.PlainAid

set_option maxRecDepth 100000 in
theorem cmpInt_any (a b : Int) (w : World) :
    Calls Tryd.prog 40 #[.int .i64 a, .int .i64 b] w fun e w' => e = .returned (.int .i64 (cmpI a b)) ∧ w = w' := by
  by_cases h1 : a < b
  · have HX : Hid (cmpI a b = -1) := Lib.hid (by unfold cmpI; rw [if_pos h1])
    go_enter Tryd.func40, Tryd.ntmps40
    go_wp2
    go_ret
    exact ⟨ret_int HX.out.symm, rfl⟩
  · by_cases h2 : b < a
    · have HX : Hid (cmpI a b = 1) := Lib.hid (by unfold cmpI; rw [if_neg h1, if_pos h2])
      go_enter Tryd.func40, Tryd.ntmps40
      go_wp2
      go_ret
      exact ⟨ret_int HX.out.symm, rfl⟩
    · have HX : Hid (cmpI a b = 0) := Lib.hid (by unfold cmpI; rw [if_neg h1, if_neg h2])
      go_enter Tryd.func40, Tryd.ntmps40
      go_wp2
      go_ret
      exact ⟨ret_int HX.out.symm, rfl⟩

set_option maxRecDepth 100000 in
theorem cmpStr_any (t u : ByteArray) (w : World) :
    Calls Tryd.prog 41 #[.string t, .string u] w fun e w' => e = .returned (.int .i64 (cmpT t u)) ∧ w = w' := by
  rcases cmpT_good.one t u with h | h | h
  all_goals
    have e1 := less_cmpT t u
    have e2 := eq_cmpT t u
    rw [h] at e1 e2
    have H := Lib.hid h
    clear h
  · have e1' : Op.bytesLess t.toList u.toList = true := e1.trans (by decide)
    clear e1 e2
    go_enter Tryd.func41, Tryd.ntmps41
    go_wp2
    go_ret
    exact ⟨ret_int H.out.symm, rfl⟩
  · have e1' : Op.bytesLess t.toList u.toList = false := e1.trans (by decide)
    have e2' : (t.toList == u.toList) = true := e2.trans (by decide)
    clear e1 e2
    go_enter Tryd.func41, Tryd.ntmps41
    go_wp2
    go_ret
    exact ⟨ret_int H.out.symm, rfl⟩
  · have e1' : Op.bytesLess t.toList u.toList = false := e1.trans (by decide)
    have e2' : (t.toList == u.toList) = false := e2.trans (by decide)
    clear e1 e2
    go_enter Tryd.func41, Tryd.ntmps41
    go_wp2
    go_ret
    exact ⟨ret_int H.out.symm, rfl⟩

def orL : List Int → Int
  | [] => 0
  | x :: r => if x = 0 then orL r else x
theorem orL_at : ∀ (xs : List Int) (k : Nat), k < xs.length → (∀ j, j < k → xs.getD j 0 = 0) → xs.getD k 0 ≠ 0 → orL xs = xs.getD k 0
  | [], _, h, _, _ => absurd h (by simp)
  | x :: r, 0, _, _, h => by simp at h; simp [orL, h]
  | x :: r, k + 1, hk, hz, h => by
    have h0 := hz 0 (by omega)
    simp at h0
    have := orL_at r k (by simpa using hk) (fun j hj => by simpa using hz (j + 1) (by omega)) (by simpa using h)
    simp [orL, h0, this]
theorem orL_none : ∀ (xs : List Int), (∀ j, j < xs.length → xs.getD j 0 = 0) → orL xs = 0
  | [], _ => rfl
  | x :: r, hz => by
    have h0 := hz 0 (by simp)
    simp at h0
    have := orL_none r (fun j hj => by simpa using hz (j + 1) (by simpa using hj))
    simp [orL, h0, this]

set_option maxRecDepth 100000 in
theorem or_any (A : Option Addr) (n c : Nat) (xs : List Int) (w : World) (lo hi : Nat) (h : Ints w lo hi A n xs) (hn : n ≤ maxLen) :
    Calls Tryd.prog 38 #[.slice A n c] w fun e w' => e = .returned (.int .i64 (orL xs)) ∧ w = w' := by
  unfold maxLen at hn
  have HL := Lib.hid h.len
  have HI := Lib.hid h
  clear h
  go_enter Tryd.func38, Tryd.ntmps38
  go_wp2
  go_loop [8] (fun i => ∃ k : Nat, k ≤ n ∧ i = .int .i64 k ∧ Hid (∀ j, j < k → xs.getD j 0 = 0)) (fun i => n - (intOf i).toNat)
  case atStart => exact ⟨0, Nat.zero_le _, rfl, fun j hj => absurd hj (by omega)⟩
  case round =>
    obtain ⟨k, hk, rfl, hall⟩ := hrel
    by_cases hlt : k < n
    · obtain ⟨b, off, x, rfl, _, _, hc, hx⟩ := HI.out.at_ hlt
      by_cases h0 : x = 0
      · subst h0
        go_wp2
        go_round
        case rel =>
          refine ⟨k + 1, by omega, by go_num, fun j hj => ?_⟩
          by_cases e : j = k
          · subst e; rw [hx.out]
          · exact hall.out j (by omega)
        case measure => simp [intOf]; omega
      · have hb : (x != 0) = true := by simpa using h0
        have HB := Lib.hid h0
        clear h0
        go_wp2
        go_ret
        exact ⟨ret_int (by rw [orL_at xs k (by rw [HL.out]; exact hlt) hall.out (by rw [hx.out]; exact HB.out), hx.out]), rfl⟩
    · go_wp2
      go_ret
      exact ⟨ret_int (orL_none xs (fun j hj => hall.out j (by rw [HL.out] at hj; omega))).symm, rfl⟩

theorem cmpV_drop : ∀ (k : Nat) (xs ys : List Int), k ≤ xs.length → k ≤ ys.length → (∀ j, j < k → xs.getD j 0 = ys.getD j 0) → cmpV xs ys = cmpV (xs.drop k) (ys.drop k)
  | 0, xs, ys, _, _, _ => by simp
  | k + 1, [], ys, h, _, _ => by simp at h
  | k + 1, _ :: _, [], _, h, _ => by simp at h
  | k + 1, x :: r, y :: s, h1, h2, h => by
    have h0 := h 0 (by omega)
    simp at h0
    subst h0
    have := cmpV_drop k r s (by simpa using h1) (by simpa using h2) (fun j hj => by simpa using h (j + 1) (by omega))
    simp [cmpV, this]
theorem drop_cons {xs : List Int} {k : Nat} (hk : k < xs.length) : xs.drop k = xs.getD k 0 :: xs.drop (k + 1) := by
  rw [List.drop_eq_getElem_cons hk, List.getD_eq_getElem?_getD, List.getElem?_eq_getElem hk]; rfl

set_option maxRecDepth 100000 in
theorem compare_any (A B : Option Addr) (n m c d : Nat) (xs ys : List Int) (w : World) (lo hi lo' hi' : Nat) (h1 : Ints w lo hi A n xs) (h2 : Ints w lo' hi' B m ys) (hn : n ≤ maxLen) :
    Calls Tryd.prog 39 #[.slice A n c, .slice B m d] w fun e w' => e = .returned (.int .i64 (cmpV xs ys)) ∧ w = w' := by
  unfold maxLen at hn
  have L1 := Lib.hid h1.len
  have L2 := Lib.hid h2.len
  have H1 := Lib.hid h1
  have H2 := Lib.hid h2
  clear h1 h2
  go_enter Tryd.func39, Tryd.ntmps39
  go_wp2
  go_loop [11] (fun i => ∃ k : Nat, k ≤ n ∧ k ≤ m ∧ i = .int .i64 k ∧ Hid (∀ j, j < k → xs.getD j 0 = ys.getD j 0)) (fun i => n - (intOf i).toNat)
  case atStart => exact ⟨0, Nat.zero_le _, Nat.zero_le _, rfl, fun j hj => absurd hj (by omega)⟩
  case round =>
    obtain ⟨k, hk, hkm, rfl, hall⟩ := hrel
    have HD := Lib.hid (cmpV_drop k xs ys (by rw [L1.out]; exact hk) (by rw [L2.out]; exact hkm) hall.out)
    by_cases hlt : k < n
    · obtain ⟨b, off, x, rfl, _, _, hc, hx⟩ := H1.out.at_ hlt
      by_cases hlm : k < m
      · obtain ⟨b', off', y, rfl, _, _, hc', hy⟩ := H2.out.at_ hlm
        have i1 : ¬ (m : Int) ≤ (k : Int) := by omega
        have i2 : (k : Int) < (m : Int) := by omega
        have HX : Hid (cmpV xs ys = if x < y then -1 else if y < x then 1 else cmpV (xs.drop (k + 1)) (ys.drop (k + 1))) := Lib.hid (by
          rw [HD.out, drop_cons (xs := xs) (k := k) (by rw [L1.out]; exact hlt), drop_cons (xs := ys) (k := k) (by rw [L2.out]; exact hlm), hx.out, hy.out]; rfl)
        by_cases hxy : x = y
        · subst hxy
          have hc0 : cmpI x x = 0 := by simp [cmpI]
          go_wp2_with (go_at_call 40; refine (cmpInt_any _ _ _).mono ?_; rintro e w' ⟨rfl, rfl⟩)
          go_round
          case rel =>
            refine ⟨k + 1, by omega, by omega, by go_num, fun j hj => ?_⟩
            by_cases e : j = k
            · subst e; rw [hx.out, hy.out]
            · exact hall.out j (by omega)
          case measure => simp [intOf]; omega
        · have hne : (cmpI x y != 0) = true := by
            unfold cmpI
            split
            · decide
            · split
              · decide
              · omega
          have HC : Hid (cmpV xs ys = cmpI x y) := Lib.hid (by
            rw [HX.out]; unfold cmpI
            split
            · rfl
            · split
              · rfl
              · omega)
          clear hxy
          go_wp2_with (go_at_call 40; refine (cmpInt_any _ _ _).mono ?_; rintro e w' ⟨rfl, rfl⟩)
          go_ret
          exact ⟨ret_int HC.out.symm, rfl⟩
      · have i1 : (m : Int) ≤ (k : Int) := by omega
        have HC : Hid (cmpV xs ys = 1) := Lib.hid (by
          rw [HD.out, drop_cons (xs := xs) (k := k) (by rw [L1.out]; exact hlt), show ys.drop k = [] from List.drop_eq_nil_of_le (by rw [L2.out]; omega)]; rfl)
        go_wp2
        go_ret
        exact ⟨ret_int HC.out.symm, rfl⟩
    · by_cases hnm : n < m
      · have i1 : (n : Int) < (m : Int) := by omega
        have HC : Hid (cmpV xs ys = -1) := Lib.hid (by
          rw [HD.out, show xs.drop k = [] from List.drop_eq_nil_of_le (by rw [L1.out]; omega), drop_cons (xs := ys) (k := k) (by rw [L2.out]; omega)]; rfl)
        go_wp2
        go_ret
        exact ⟨ret_int HC.out.symm, rfl⟩
      · have i1 : ¬ (n : Int) < (m : Int) := by omega
        have HC : Hid (cmpV xs ys = 0) := Lib.hid (by
          rw [HD.out, show xs.drop k = [] from List.drop_eq_nil_of_le (by rw [L1.out]; omega), show ys.drop k = [] from List.drop_eq_nil_of_le (by rw [L2.out]; omega)]; rfl)
        go_wp2
        go_ret
        exact ⟨ret_int HC.out.symm, rfl⟩

end Go.Proofs.YtldnpfkgehgfpaaDoor
