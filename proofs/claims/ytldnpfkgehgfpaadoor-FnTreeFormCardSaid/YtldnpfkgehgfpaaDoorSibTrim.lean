
/-
  strings.Trim at the letters a to d, and isSib.
-/
import Derived.Test.YtldnpfkgehgfpaaDoorSibA
import Derived.Test.YtldnpfkgehgfpaaDoorShelfTrim
namespace Go.Proofs.YtldnpfkgehgfpaaDoor
open Go.RowKit Go.PlainAid

theorem trim_any (t : ByteArray) (w : World) (hs : t.size ≤ 4) :
    Calls Tryd.prog 36 #[.string t, .string ⟨#[97, 98, 99, 100]⟩] w fun e w' => ∃ r : ByteArray, e = .returned (.string r) ∧ r.toList.isEmpty = textOk t ∧ Below w.heap.size w w' :=
  (Tryd.strings_Trim_ascii t ⟨#[97, 98, 99, 100]⟩ w (by omega) (by decide) (ascii_of_all (by decide))).mono fun _ _ ⟨he, hb⟩ => ⟨_, he, by rw [Lib.toList_data, textOk_small hs], hb⟩

set_option maxRecDepth 100000 in
theorem isSib_any (A : Option Addr) (n c : Nat) (xs : List Int) (g : Bool) (t : ByteArray) (w : World) (h : Has w A n xs) (hn : n ≤ maxLen) :
    Calls Tryd.prog 24 #[.agg #[.slice A n c, .bool g, .string t]] w fun e w' => e = .returned (.bool (sibOk ⟨xs, g, t⟩)) ∧ Below w.heap.size w w' := by
  have H := Lib.hid (h.step (bel_alloc w (.cells #[.slice A n c, .bool g, .string t] 43)))
  have V := Lib.hid (Var3.new 43 w (.slice A n c) (.bool g) (.string t))
  clear h
  obtain ⟨e0, he0⟩ : ∃ b, t.toList.isEmpty = b := ⟨_, rfl⟩
  have HE := Lib.hid ((isEmpty_size t).symm.trans he0)
  by_cases k1 : vvOk xs = true
  · by_cases k2 : t.size ≤ 4
    · have i2 : (t.size : Int) ≤ 4 := by omega
      go_enter Tryd.func24, Tryd.ntmps24
      go_wp2_with fail
      refine (isVv_any A n c xs _ _ _ H.out hn).mono ?_
      rintro e w' ⟨rfl, rfl⟩
      go_wp2_with fail
      refine (trim_any t _ k2).mono ?_
      rintro e w2 ⟨r, rfl, hr, hb⟩
      have V2 := V.out.step hb
      have q1 := V2.c1
      have q2 := V2.c2
      have HB := Lib.hid ((bel_alloc w _).trans (hb.mono (by simp)))
      clear V2 hb
      by_cases k3 : textOk t = true
      · rw [k3] at hr
        cases g <;> cases e0
        all_goals go_wp2
        all_goals go_ret
        all_goals exact ⟨ret_bool (by simp [sibOk, k1, k3, HE.out]), HB.out⟩
      · have k3' : textOk t = false := by simpa using k3
        rw [k3'] at hr
        clear k3
        go_wp2
        go_ret
        exact ⟨ret_bool (by simp [sibOk, k1, k3']), HB.out⟩
    · have k2' : textOk t = false := by
        rw [Bool.eq_false_iff]; intro h; exact k2 ((textOk_iff t).1 h).1
      have K2 := Lib.hid k2'
      have i2 : ¬ (t.size : Int) ≤ 4 := by omega
      clear k2 k2'
      go_enter Tryd.func24, Tryd.ntmps24
      go_wp2_with fail
      refine (isVv_any A n c xs _ _ _ H.out hn).mono ?_
      rintro e w' ⟨rfl, rfl⟩
      go_wp2
      go_ret
      exact ⟨ret_bool (by simp [sibOk, k1, K2.out]), bel_alloc _ _⟩
  · have k1' : vvOk xs = false := by simpa using k1
    clear k1
    go_enter Tryd.func24, Tryd.ntmps24
    go_wp2_with fail
    refine (isVv_any A n c xs _ _ _ H.out hn).mono ?_
    rintro e w' ⟨rfl, rfl⟩
    go_wp2
    go_ret
    exact ⟨ret_bool (by simp [sibOk, k1']), bel_alloc _ _⟩

end Go.Proofs.YtldnpfkgehgfpaaDoor
