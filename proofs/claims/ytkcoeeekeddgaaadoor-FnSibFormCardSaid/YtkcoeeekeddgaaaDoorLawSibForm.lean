
/-
  The walk of the law FnSibForm.
-/
import Derived.Test.YtkcoeeekeddgaaaDoorSibTrim
import Derived.Test.YtkcoeeekeddgaaaDoorDrawS2
import Derived.Test.YtkcoeeekeddgaaaDoorLawSibOk
namespace Go.Proofs.YtkcoeeekeddgaaaDoor
open Go.RowKit Go.PlainAid

theorem form_x {xs : List Int} {g : Bool} {t : ByteArray} (h : sibOk ⟨xs, g, t⟩ = true) : sibOk ⟨xs, true, t⟩ = t.toList.isEmpty := by
  rw [isEmpty_size]
  simp only [sibOk, Bool.and_eq_true] at h ⊢
  simp [h.1.1, h.1.2]
theorem form_y (xs : List Int) : sibOk ⟨xs, false, ⟨#[97, 97, 97, 97, 97]⟩⟩ = false := by
  have : textOk ⟨#[97, 97, 97, 97, 97]⟩ = false := by decide
  simp [sibOk, this]
theorem form_z (xs : List Int) : sibOk ⟨xs, false, ⟨#[101]⟩⟩ = false := by
  have : textOk ⟨#[101]⟩ = false := by decide
  simp [sibOk, this]

set_option maxRecDepth 100000 in
set_option maxHeartbeats 1600000 in
theorem FnSibForm_walk (A : Option Addr) (n c : Nat) (zs : List Int) (w : World) (h : Came w A n c zs) :
    Calls Tryd.prog 5 #[.slice A n c] w fun e w' => e = .returned (.bool true) ∧ Below w.heap.size w w' := by
  by_cases big : 1048576 < n
  · go_enter Tryd.func5, Tryd.ntmps5
    go_wp2
    go_ret
    exact ⟨rfl, Below.refl _ _⟩
  have H := Lib.hid h
  clear h
  go_enter Tryd.func5, Tryd.ntmps5
  go_wp2_with fail
  refine (DrawSibOk_any A n c zs _ H.out).mono ?_
  rintro e w1 ⟨A1, n1, c1, xs, g, t, rfl, hn1, ht, hb, hI⟩
  have hA := bel_alloc w1 (.cells #[.slice A1 n1 c1, .bool g, .string t] 31)
  have B1 := Lib.hid (hb.trans (hA.mono hb.size))
  have I1 := Lib.hid (hI.step hA)
  have V1 := Lib.hid (Var3.new 31 w1 (.slice A1 n1 c1) (.bool g) (.string t))
  have hn : n1 ≤ maxLen := by unfold maxLen; omega
  have hs : t.size ≤ maxLen := by unfold maxLen; omega
  clear hb hI hA
  go_wp2_with fail
  refine (iSibOk_any A1 n1 c1 xs g t _ I1.out hn).mono ?_
  rintro e w2 ⟨rfl, hb⟩
  have B2 := Lib.hid (B1.out.trans (hb.mono B1.out.size))
  have I2 := Lib.hid (I1.out.step hb)
  have V2 := Lib.hid (V1.out.step hb)
  have a0 := V2.out.c0
  have a1 := V2.out.c1
  have a2 := V2.out.c2
  clear hb
  go_wp2_with fail
  refine (sSibOk_any A1 n1 c1 xs g t _ I2.out hn hs).mono ?_
  rintro e w3 ⟨rfl, hb⟩
  have B3 := Lib.hid (B2.out.trans (hb.mono B2.out.size))
  have I3 := Lib.hid (I2.out.step hb)
  have V3 := Lib.hid (V2.out.step hb)
  clear hb a0 a1 a2
  have a0 := V3.out.c0
  have a1 := V3.out.c1
  have a2 := V3.out.c2
  have al := V3.out.lt
  by_cases k : sibOk ⟨xs, g, t⟩ = true
  · obtain ⟨e0, he0⟩ : ∃ b, t.toList.isEmpty = b := ⟨_, rfl⟩
    have hx := (form_x k).trans he0
    have hy := form_y xs
    have hz := form_z xs
    have b1 := bel_alloc w3 (.cells #[.slice A1 n1 c1, .bool true, .string t] 31)
    have b2 := bel_alloc (w3.alloc (.cells #[.slice A1 n1 c1, .bool true, .string t] 31)) (.cells #[.slice A1 n1 c1, .bool false, .string ⟨#[97, 97, 97, 97, 97]⟩] 31)
    have b3 := bel_alloc ((w3.alloc (.cells #[.slice A1 n1 c1, .bool true, .string t] 31)).alloc (.cells #[.slice A1 n1 c1, .bool false, .string ⟨#[97, 97, 97, 97, 97]⟩] 31)) (.cells #[.slice A1 n1 c1, .bool false, .string ⟨#[101]⟩] 31)
    have BW := Lib.hid (((B3.out.trans (b1.mono B3.out.size)).trans (b2.mono (B3.out.trans (b1.mono B3.out.size)).size)).trans (b3.mono ((B3.out.trans (b1.mono B3.out.size)).trans (b2.mono (B3.out.trans (b1.mono B3.out.size)).size)).size))
    have IW := Lib.hid (((I3.out.step b1).step b2).step b3)
    have VW := Lib.hid (((V3.out.step b1).step b2).step b3)
    have XW := Lib.hid (((Var3.new 31 w3 (.slice A1 n1 c1) (.bool true) (.string t)).step b2).step b3)
    have YW : Hid (Var3 31 (((w3.alloc (.cells #[.slice A1 n1 c1, .bool true, .string t] 31)).alloc (.cells #[.slice A1 n1 c1, .bool false, .string ⟨#[97, 97, 97, 97, 97]⟩] 31)).alloc (.cells #[.slice A1 n1 c1, .bool false, .string ⟨#[101]⟩] 31)) (w3.heap.size + 1) (.slice A1 n1 c1) (.bool false) (.string ⟨#[97, 97, 97, 97, 97]⟩)) := Lib.hid (by simpa using (Var3.new 31 (w3.alloc (.cells #[.slice A1 n1 c1, .bool true, .string t] 31)) (.slice A1 n1 c1) (.bool false) (.string ⟨#[97, 97, 97, 97, 97]⟩)).step b3)
    have ZW : Hid (Var3 31 (((w3.alloc (.cells #[.slice A1 n1 c1, .bool true, .string t] 31)).alloc (.cells #[.slice A1 n1 c1, .bool false, .string ⟨#[97, 97, 97, 97, 97]⟩] 31)).alloc (.cells #[.slice A1 n1 c1, .bool false, .string ⟨#[101]⟩] 31)) (w3.heap.size + 1 + 1) (.slice A1 n1 c1) (.bool false) (.string ⟨#[101]⟩)) := Lib.hid (by simpa using Var3.new 31 ((w3.alloc (.cells #[.slice A1 n1 c1, .bool true, .string t] 31)).alloc (.cells #[.slice A1 n1 c1, .bool false, .string ⟨#[97, 97, 97, 97, 97]⟩] 31)) (.slice A1 n1 c1) (.bool false) (.string ⟨#[101]⟩))
    clear b1 b2 b3
    cases e0
    all_goals go_wp2
    all_goals clear a0 a1 a2
    all_goals
      go_region_held3 (fun w' => w'.cell? ⟨w1.heap.size, 0, none⟩ = some (.slice A1 n1 c1) ∧ w'.cell? ⟨w1.heap.size, 1, none⟩ = some (.bool g) ∧ w'.cell? ⟨w1.heap.size, 2, none⟩ = some (.string t) ∧ w'.cell? ⟨w3.heap.size, 0, none⟩ = some (.slice A1 n1 c1) ∧ w'.cell? ⟨w3.heap.size, 1, none⟩ = some (.bool true) ∧ w'.cell? ⟨w3.heap.size, 2, none⟩ = some (.string t) ∧ w'.cell? ⟨w3.heap.size + 1, 0, none⟩ = some (.slice A1 n1 c1) ∧ w'.cell? ⟨w3.heap.size + 1, 1, none⟩ = some (.bool false) ∧ w'.cell? ⟨w3.heap.size + 1, 2, none⟩ = some (.string ⟨#[97, 97, 97, 97, 97]⟩) ∧ w'.cell? ⟨w3.heap.size + 1 + 1, 0, none⟩ = some (.slice A1 n1 c1) ∧ w'.cell? ⟨w3.heap.size + 1 + 1, 1, none⟩ = some (.bool false) ∧ w'.cell? ⟨w3.heap.size + 1 + 1, 2, none⟩ = some (.string ⟨#[101]⟩) ∧ Has w' A1 n1 xs ∧ Below w.heap.size w w')
        (first
          | exact ⟨VW.out.c0, VW.out.c1, VW.out.c2, XW.out.c0, XW.out.c1, XW.out.c2, YW.out.c0, YW.out.c1, YW.out.c2, ZW.out.c0, ZW.out.c1, ZW.out.c2, by exact IW.out, BW.out.drew⟩
          | (go_split_ands
             exact ⟨cell_up hb (by assumption), cell_up hb (by assumption), cell_up hb (by assumption), cell_up hb (by assumption), cell_up hb (by assumption), cell_up hb (by assumption), cell_up hb (by assumption), cell_up hb (by assumption), cell_up hb (by assumption), cell_up hb (by assumption), cell_up hb (by assumption), cell_up hb (by assumption), Has.step (by assumption) hb, Below.trans (by assumption) (hb.mono (Below.size (by assumption)))⟩))
        (first
          | (go_at_call 21; go_split_ands; refine (iSibOk_any _ _ _ xs _ _ _ (by assumption) hn).mono ?_; rintro e w6 ⟨rfl, hb⟩; first | rw [hx] | rw [hy] | rw [hz]))
      go_split_ands
      go_wp2
      go_ret
      exact ⟨rfl, by assumption⟩
  · have k' : sibOk ⟨xs, g, t⟩ = false := by simpa using k
    clear k
    go_wp2_with fail
    refine (sSibOk_any A1 n1 c1 xs g t _ I3.out hn hs).mono ?_
    rintro e w4 ⟨rfl, hb⟩
    have B4 := Lib.hid (B3.out.trans (hb.mono B3.out.size))
    clear hb
    go_wp2
    go_ret
    exact ⟨ret_bool (by simp), B4.out⟩

end Go.Proofs.YtkcoeeekeddgaaaDoor
