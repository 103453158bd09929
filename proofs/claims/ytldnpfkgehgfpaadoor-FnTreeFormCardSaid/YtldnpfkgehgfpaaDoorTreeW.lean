
/-
  Contracts: isFileName, l3Name, isTree, TreeOk (the program's and the reference's).
-/
import Derived.Test.YtldnpfkgehgfpaaDoorTreeM
import Derived.Test.YtldnpfkgehgfpaaDoorSibsC
import Derived.Test.YtldnpfkgehgfpaaDoorSibsD
namespace Go.Proofs.YtldnpfkgehgfpaaDoor
open Go.RowKit Go.PlainAid

theorem one_byte {t : ByteArray} (h : t.size = 1) : ∃ b : UInt8, t = ⟨#[b]⟩ ∧ bt t 0 = (b.toNat : Int) := by
  obtain ⟨⟨l⟩⟩ := t
  match l, h with
  | [], h => simp [ByteArray.size] at h
  | [b], _ => exact ⟨b, rfl, bt_list ⟨⟨[b]⟩⟩ (by simp [ByteArray.size])⟩
  | a :: b :: r, h => simp [ByteArray.size] at h
theorem list_A : (ByteArray.mk #[65]).toList = [65] := by simp
theorem list_F : (ByteArray.mk #[70]).toList = [70] := by simp
theorem less_A {t : ByteArray} (h : t.size = 1) : Op.bytesLess t.toList [65] = decide (bt t 0 < 65) := by
  obtain ⟨b, rfl, hb⟩ := one_byte h
  rw [← list_A, less_cmpT, hb, decide_eq_decide]
  show cmpV [(b.toNat : Int)] [65] = -1 ↔ _
  unfold cmpV
  split
  · simp_all
  · split <;> simp_all [cmpV]
theorem leq_F {t : ByteArray} (h : t.size = 1) : (Op.bytesLess t.toList [70] || t.toList == [70]) = decide (bt t 0 ≤ 70) := by
  obtain ⟨b, rfl, hb⟩ := one_byte h
  rw [← list_F, less_cmpT, eq_cmpT, hb, ← Bool.decide_or, decide_eq_decide]
  show cmpV [(b.toNat : Int)] [70] = -1 ∨ cmpV [(b.toNat : Int)] [70] = 0 ↔ _
  unfold cmpV
  split
  · simp_all; omega
  · split
    · simp_all
    · simp_all [cmpV]
theorem nameOk_size {t : ByteArray} (h : ¬ t.size = 1) : nameOk t = false := by simp [nameOk, h]
theorem nameOk_lo {t : ByteArray} (h : bt t 0 < 65) : nameOk t = false := by
  have : ¬ 65 ≤ bt t 0 := by omega
  simp [nameOk, this]
theorem nameOk_hi {t : ByteArray} (h : 70 < bt t 0) : nameOk t = false := by
  have : ¬ bt t 0 ≤ 70 := by omega
  simp [nameOk, this]
theorem nameOk_yes {t : ByteArray} (h : t.size = 1) (h1 : ¬ bt t 0 < 65) (h2 : ¬ 70 < bt t 0) : nameOk t = true := by
  have h3 : 65 ≤ bt t 0 := by omega
  have h4 : bt t 0 ≤ 70 := by omega
  simp [nameOk, h, h3, h4]

set_option maxRecDepth 100000 in
theorem isFileName_any (t : ByteArray) (w : World) (_ : t.size ≤ 1000) :
    Calls Tryd.prog 20 #[.string t] w fun e w' => e = .returned (.bool (nameOk t)) ∧ w = w' := by
  by_cases h : t.size = 1
  · have f1 := less_A h
    have f2 := leq_F h
    have he : ((t.size : Int) == 1) = true := by rw [h]; rfl
    by_cases h1 : bt t 0 < 65
    · have HX := Lib.hid (nameOk_lo h1)
      have g1 : Op.bytesLess t.toList [65] = true := by rw [f1, decide_eq_true h1]
      clear f1 f2 h1
      go_enter Tryd.func20, Tryd.ntmps20
      go_wp2
      go_ret
      exact ⟨ret_bool HX.out.symm, rfl⟩
    · have g1 : Op.bytesLess t.toList [65] = false := by rw [f1, decide_eq_false h1]
      by_cases h2 : 70 < bt t 0
      · have HX := Lib.hid (nameOk_hi h2)
        have g2 : (Op.bytesLess t.toList [70] || t.toList == [70]) = false := by rw [f2, decide_eq_false (by omega)]
        clear f1 f2 h1 h2
        go_enter Tryd.func20, Tryd.ntmps20
        go_wp2
        go_ret
        exact ⟨ret_bool HX.out.symm, rfl⟩
      · have HX := Lib.hid (nameOk_yes h h1 h2)
        have g2 : (Op.bytesLess t.toList [70] || t.toList == [70]) = true := by rw [f2, decide_eq_true (by omega)]
        clear f1 f2 h1 h2
        go_enter Tryd.func20, Tryd.ntmps20
        go_wp2
        go_ret
        exact ⟨ret_bool HX.out.symm, rfl⟩
  · have HX := Lib.hid (nameOk_size h)
    have he : ((t.size : Int) == 1) = false := by rw [beq_eq_false_iff_ne]; omega
    clear h
    go_enter Tryd.func20, Tryd.ntmps20
    go_wp2
    go_ret
    exact ⟨ret_bool HX.out.symm, rfl⟩

set_option maxRecDepth 100000 in
theorem l3Name_any (t : ByteArray) (w : World) (_ : t.size ≤ 1000) :
    Calls Tryd.prog 14 #[.string t] w fun e w' => e = .returned (.bool (nameOk t)) ∧ w = w' := by
  by_cases h : t.size = 1
  · have HX : Hid ((decide (65 ≤ bt t 0) && decide (bt t 0 ≤ 70)) = nameOk t) := Lib.hid (by simp [nameOk, h])
    have he : ((t.size : Int) == 1) = true := by rw [h]; rfl
    have hb := get_bt t
    have b0 := bt_nonneg t 0
    have b1 := bt_le t 0
    have h0 : (0 : Int) < (t.size : Int) := by omega
    have h00 : 0 < t.size := by omega
    have hw : IntKind.i64.wrap (bt t 0) = bt t 0 := IntWalk.i64_in _ (by omega)
    clear h
    go_enter Tryd.func14, Tryd.ntmps14
    go_wp2_with fail
    refine (l6In_any _ _ _ _).mono ?_
    rintro e w' ⟨rfl, rfl⟩
    rw [HX.out]
    go_wp2
    go_ret
    exact ⟨rfl, rfl⟩
  · have HX := Lib.hid (nameOk_size h)
    have he : ((t.size : Int) == 1) = false := by rw [beq_eq_false_iff_ne]; omega
    clear h
    go_enter Tryd.func14, Tryd.ntmps14
    go_wp2
    go_ret
    exact ⟨ret_bool HX.out.symm, rfl⟩

end Go.Proofs.YtldnpfkgehgfpaaDoor
