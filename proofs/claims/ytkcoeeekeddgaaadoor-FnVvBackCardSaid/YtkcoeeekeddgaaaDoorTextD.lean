
/-
  Contracts of the reference's reading of counts: l1Dec, l1Cut, VvRead.
-/
import Derived.Test.YtkcoeeekeddgaaaDoorTextC
import Derived.Test.YtkcoeeekeddgaaaDoorShelfRead
import Derived.Laws.OwnMore
namespace Go.Proofs.YtkcoeeekeddgaaaDoor
open Go.RowKit Go.PlainAid

/-! ## l1Dec -/
/-- What the first k bytes say as figures. -/
def vAt (t : ByteArray) : Nat → Int
  | 0 => 0
  | k + 1 => 10 * vAt t k + (bt t k - 48)
theorem vAt_le {t : ByteArray} (h : t.size ≤ 2) : ∀ {k : Nat}, k ≤ t.size → (∀ j, j < k → 48 ≤ bt t j ∧ bt t j ≤ 57) → 0 ≤ vAt t k ∧ (k ≤ 1 → vAt t k ≤ 9) ∧ vAt t k ≤ 99
  | 0, _, _ => by simp [vAt]
  | 1, _, hd => by have := hd 0 (by omega); simp [vAt]; omega
  | 2, _, hd => by have := hd 0 (by omega); have := hd 1 (by omega); simp [vAt]; omega
  | k + 3, hk, _ => by omega
theorem decB_size {t : ByteArray} (h : t.size < 1 ∨ 2 < t.size) : decB t.data.toList = -1 := by
  obtain ⟨⟨l⟩⟩ := t
  match l, h with
  | [], _ => rfl
  | [a], h => simp [ByteArray.size] at h
  | [a, b], h => simp [ByteArray.size] at h
  | a :: b :: c :: r, _ => rfl
theorem isDig_bt {t : ByteArray} {k : Nat} (h : k < t.size) : isDig (t.data.toList[k]'(by simpa using h)) = (decide (48 ≤ bt t k) && decide (bt t k ≤ 57)) := by
  rw [bt_list t h, Bool.eq_iff_iff]
  simp only [isDig, Bool.and_eq_true, decide_eq_true_eq]
  omega
theorem decB_all {t : ByteArray} (h1 : 1 ≤ t.size) (h2 : t.size ≤ 2) (hd : ∀ j, j < t.size → 48 ≤ bt t j ∧ bt t j ≤ 57) : decB t.data.toList = vAt t t.size := by
  have hg : ∀ j (h : j < t.size), isDig (t.data.toList[j]'(by simpa using h)) = true := fun j h => by
    rw [isDig_bt h, Bool.and_eq_true, decide_eq_true_eq, decide_eq_true_eq]; exact hd j h
  have hb : ∀ j (h : j < t.size), bt t j = ((t.data.toList[j]'(by simpa using h)).toNat : Int) := fun j h => bt_list t h
  obtain ⟨⟨l⟩⟩ := t
  match l, h1, h2, hg, hb with
  | [], h1, _, _, _ => simp [ByteArray.size] at h1
  | [a], _, _, hg, hb =>
    have g0 : isDig a = true := hg 0 (by simp [ByteArray.size])
    have b0 : bt ⟨⟨[a]⟩⟩ 0 = (a.toNat : Int) := hb 0 (by simp [ByteArray.size])
    show decB [a] = vAt ⟨⟨[a]⟩⟩ 1
    simp [decB, g0, vAt, b0]
  | [a, b], _, _, hg, hb =>
    have g0 : isDig a = true := hg 0 (by simp [ByteArray.size])
    have g1 : isDig b = true := hg 1 (by simp [ByteArray.size])
    have b0 : bt ⟨⟨[a, b]⟩⟩ 0 = (a.toNat : Int) := hb 0 (by simp [ByteArray.size])
    have b1 : bt ⟨⟨[a, b]⟩⟩ 1 = (b.toNat : Int) := hb 1 (by simp [ByteArray.size])
    show decB [a, b] = vAt ⟨⟨[a, b]⟩⟩ 2
    simp [decB, g0, g1, vAt, b0, b1]
  | a :: b :: c :: r, _, h2, _, _ => simp [ByteArray.size] at h2
theorem decB_bad {t : ByteArray} {k : Nat} (hk : k < t.size) (h : bt t k < 48 ∨ 57 < bt t k) : decB t.data.toList = -1 := by
  have hg : ∀ (h : k < t.size), isDig (t.data.toList[k]'(by simpa using h)) = false := fun h' => by
    rw [isDig_bt h', Bool.and_eq_false_iff, decide_eq_false_iff_not, decide_eq_false_iff_not]; omega
  obtain ⟨⟨l⟩⟩ := t
  match l, k, hk, hg with
  | [], _, hk, _ => simp [ByteArray.size] at hk
  | [a], 0, hk, hg =>
    have g0 : isDig a = false := hg hk
    show decB [a] = -1
    simp [decB, g0]
  | [a], k + 1, hk, _ => simp [ByteArray.size] at hk
  | [a, b], 0, hk, hg =>
    have g0 : isDig a = false := hg hk
    show decB [a, b] = -1
    simp [decB, g0]
  | [a, b], 1, hk, hg =>
    have g0 : isDig b = false := hg hk
    show decB [a, b] = -1
    simp [decB, g0]
  | [a, b], k + 2, hk, _ => simp [ByteArray.size] at hk; omega
  | a :: b :: c :: r, _, _, _ => rfl

set_option maxRecDepth 100000 in
set_option maxHeartbeats 1600000 in
theorem l1Dec_any (t : ByteArray) (w : World) (hs : t.size ≤ 1000) :
    Calls Tryd.prog 69 #[.string t] w fun e w' => e = .returned (.int .i64 (decB t.data.toList)) ∧ w = w' := by
  by_cases h1 : 1 ≤ t.size ∧ t.size ≤ 2
  · obtain ⟨h1, h2⟩ := h1
    have hb := get_bt t
    have hi : (decide ((1 : Int) ≤ (t.size : Int)) && decide ((t.size : Int) ≤ 2)) = true := by rw [Bool.and_eq_true, decide_eq_true_eq, decide_eq_true_eq]; omega
    have HI := Lib.hid hi
    clear hi
    go_enter Tryd.func69, Tryd.ntmps69
    go_wp2_with (go_at_call 71; refine (l6In_any _ _ _ _).mono ?_; rintro e w' ⟨rfl, rfl⟩; rw [HI.out])
    go_loopw [3, 4] (fun n i wr => wr = w ∧ ∃ k : Nat, k ≤ t.size ∧ i = .int .i64 k ∧ n = .int .i64 (vAt t k) ∧ Hid (∀ j, j < k → 48 ≤ bt t j ∧ bt t j ≤ 57)) (fun _ i _ => t.size - (intOf i).toNat)
    case atStart => exact ⟨rfl, 0, Nat.zero_le _, rfl, rfl, fun j hj => absurd hj (by omega)⟩
    case round =>
      obtain ⟨rfl, k, hk, rfl, rfl, hall⟩ := hrel
      have hv := vAt_le h2 hk hall.out
      by_cases hlt : k < t.size
      · have b0 := bt_nonneg t k
        have b1 := bt_le t k
        by_cases hlo : bt t k < 48
        · have HB := Lib.hid (decB_bad hlt (.inl hlo))
          go_wp2
          go_ret
          exact ⟨ret_int HB.out.symm, rfl⟩
        · by_cases hhi : 57 < bt t k
          · have HB := Lib.hid (decB_bad hlt (.inr hhi))
            go_wp2
            go_ret
            exact ⟨ret_int HB.out.symm, rfl⟩
          · have hv9 := hv.2.1 (by omega)
            have w1 : IntKind.u8.wrap (bt t k - 48) = bt t k - 48 := IntWalk.u8_in _ (by omega)
            have w2 : IntKind.i64.wrap (bt t k - 48) = bt t k - 48 := IntWalk.i64_in _ (by omega)
            have w3 : IntKind.i64.wrap (10 * vAt t k) = 10 * vAt t k := IntWalk.i64_in _ (by omega)
            have w4 : IntKind.i64.wrap (10 * vAt t k + (bt t k - 48)) = 10 * vAt t k + (bt t k - 48) := IntWalk.i64_in _ (by omega)
            go_wp2
            go_round
            case rel =>
              refine ⟨by first | rfl | trivial, k + 1, by omega, by go_num, by first | rfl | trivial, fun j hj => ?_⟩
              by_cases e : j = k
              · subst e; omega
              · exact hall.out j (by omega)
            case measure => simp [intOf]; omega
      · obtain rfl : k = t.size := by omega
        have HB := Lib.hid (decB_all h1 h2 hall.out)
        go_wp2
        go_ret
        exact ⟨ret_int HB.out.symm, rfl⟩
  · have hi : (decide ((1 : Int) ≤ (t.size : Int)) && decide ((t.size : Int) ≤ 2)) = false := by rw [Bool.and_eq_false_iff, decide_eq_false_iff_not, decide_eq_false_iff_not]; omega
    have HI := Lib.hid hi
    have HB := Lib.hid (decB_size (t := t) (by omega))
    clear hi h1
    go_enter Tryd.func69, Tryd.ntmps69
    go_wp2_with (go_at_call 71; refine (l6In_any _ _ _ _).mono ?_; rintro e w' ⟨rfl, rfl⟩; rw [HI.out])
    go_ret
    exact ⟨ret_int HB.out.symm, rfl⟩

end Go.Proofs.YtkcoeeekeddgaaaDoor
