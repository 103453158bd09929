
/-
  The walk of the law FnExactSibCmp. (Printed by gen/sibcmp.py.)
-/
import Derived.Test.YtkcoeeekeddgaaaDoorSibD
import Derived.Test.YtkcoeeekeddgaaaDoorLawSibOk
namespace Go.Proofs.YtkcoeeekeddgaaaDoor
open Go.RowKit Go.PlainAid

set_option maxRecDepth 100000 in
set_option maxHeartbeats 3200000 in
theorem FnExactSibCmp_walk (A B : Option Addr) (n m c d : Nat) (xs ys : List Int) (g g' : Bool) (t u : ByteArray) (w : World) (h1 : Has w A n xs) (hn : n ≤ maxLen) (hs : t.size ≤ maxLen) (h2 : Has w B m ys) (hm : m ≤ maxLen) (hu : u.size ≤ maxLen) :
    Calls Tryd.prog 7 #[.agg #[.slice A n c, .bool g, .string t], .agg #[.slice B m d, .bool g', .string u]] w fun e w' => e = .returned (.bool true) ∧ Below w.heap.size w w' := by
  have b1 := bel_alloc w (.cells #[.slice A n c, .bool g, .string t] 28)
  have b2 := bel_alloc (w.alloc (.cells #[.slice A n c, .bool g, .string t] 28)) (.cells #[.slice B m d, .bool g', .string u] 28)
  have BW := Lib.hid (b1.trans (b2.mono b1.size))
  have I1 := Lib.hid ((h1.step b1).step b2)
  have I2 := Lib.hid ((h2.step b1).step b2)
  have V1 := Lib.hid ((Var3.new 28 w (.slice A n c) (.bool g) (.string t)).step b2)
  have V2 : Hid (Var3 28 ((w.alloc (.cells #[.slice A n c, .bool g, .string t] 28)).alloc (.cells #[.slice B m d, .bool g', .string u] 28)) (w.heap.size + 1) (.slice B m d) (.bool g') (.string u)) :=
    Lib.hid (by simpa using Var3.new 28 (w.alloc (.cells #[.slice A n c, .bool g, .string t] 28)) (.slice B m d) (.bool g') (.string u))
  clear b1 b2 h1 h2
  go_enter Tryd.func7, Tryd.ntmps7
  go_wp2_with fail
  refine (szSib_any A n c g t 1048576 _ hn hs (by omega) (by omega)).mono ?_
  rintro e w1 ⟨r, rfl, hr, hb⟩
  have B1 := Lib.hid (BW.out.trans (hb.mono BW.out.size))
  have J1 := Lib.hid (I1.out.step hb)
  have J2 := Lib.hid (I2.out.step hb)
  have U1 := Lib.hid (V1.out.step hb)
  have U2 := Lib.hid (V2.out.step hb)
  clear hb
  rcases hr with rfl | ⟨hr0, hr1⟩
  · go_wp2
    go_ret
    exact ⟨rfl, B1.out⟩
  have i0 : ¬ r < 0 := by omega
  have b0 := U2.out.c0
  have b1 := U2.out.c1
  have b2 := U2.out.c2
  go_wp2_with fail
  refine (szSib_any B m d g' u r _ hm hu (by omega) (by omega)).mono ?_
  rintro e w2 ⟨r2, rfl, hr, hb⟩
  have hW := B1.out.trans (hb.mono B1.out.size)
  have hA := J1.out.step hb
  have hB := J2.out.step hb
  have T1 := U1.out.step hb
  have T2 := U2.out.step hb
  clear hb b0 b1 b2
  rcases hr with rfl | ⟨hq0, hq1⟩
  · have HW := Lib.hid hW
    clear hW
    go_wp2
    go_ret
    exact ⟨rfl, HW.out⟩
  have j0 : ¬ r2 < 0 := by omega
  have a0 := T1.c0
  have a1 := T1.c1
  have a2 := T1.c2
  have b0 := T2.c0
  have b1 := T2.c1
  have b2 := T2.c2
  clear T1 T2 U1 U2 V1 V2
  have HN : n ≤ 1048576 := by omega
  have HM : m ≤ 1048576 := by omega
  go_wp2
  go_region_held3 (fun w' => w'.cell? ⟨w.heap.size, 0, none⟩ = some (.slice A n c) ∧ w'.cell? ⟨w.heap.size, 1, none⟩ = some (.bool g) ∧ w'.cell? ⟨w.heap.size, 2, none⟩ = some (.string t) ∧ w'.cell? ⟨w.heap.size + 1, 0, none⟩ = some (.slice B m d) ∧ w'.cell? ⟨w.heap.size + 1, 1, none⟩ = some (.bool g') ∧ w'.cell? ⟨w.heap.size + 1, 2, none⟩ = some (.string u) ∧ Has w' A n xs ∧ Has w' B m ys ∧ Below w.heap.size w w')
    (first
      | exact ⟨a0, a1, a2, b0, b1, b2, hA, hB, hW.drew⟩
      | (go_split_ands
         exact ⟨cell_up hb (by assumption), cell_up hb (by assumption), cell_up hb (by assumption), cell_up hb (by assumption), cell_up hb (by assumption), cell_up hb (by assumption), Has.step (by assumption) hb, Has.step (by assumption) hb, Below.trans (by assumption) (hb.mono (Below.size (by assumption)))⟩))
    (first
      | (go_at_call 20; go_split_ands; refine (toSib_any _ _ _ _ _ _ _ (by assumption) (by assumption)).mono ?_; rintro e w6 ⟨b6, rfl, hb, hI⟩)
      | (go_at_call 27; refine (sSibCmp_any _ _ _ _ _ _ xs ys _ _ _ _ _ (Has.step (by assumption) hb) hI hn hm hs hu).mono ?_; clear hb; rintro e w6 ⟨rfl, hb⟩))
  rename_i hS
  clear a0 a1 a2 b0 b1 b2 hA hB hW hb
  obtain ⟨a0, a1, a2, b0, b1, b2, hA, hB, hW⟩ := hS
  have HW := Lib.hid hW
  have HA := Lib.hid hA
  have HB := Lib.hid hB
  clear hW hA hB
  go_wp2_with fail
  refine (toSib_any A n c xs g t _ HA.out HN).mono ?_
  rintro e wa ⟨ba, rfl, hb, hI⟩
  have h3 := bel_alloc wa (.cells #[.slice (some ⟨ba, 0, none⟩) n n, .bool g, .string t] 31)
  have HWa := Lib.hid ((HW.out.trans (hb.mono HW.out.size)).trans (h3.mono (HW.out.trans (hb.mono HW.out.size)).size))
  have HAa := Lib.hid ((HA.out.step hb).step h3)
  have HBa := Lib.hid ((HB.out.step hb).step h3)
  have HCa := Lib.hid (hI.step h3)
  have Va := Lib.hid (Var3.new 31 wa (.slice (some ⟨ba, 0, none⟩) n n) (.bool g) (.string t))
  have a0' := cell_up h3 (cell_up hb a0)
  have a1' := cell_up h3 (cell_up hb a1)
  have a2' := cell_up h3 (cell_up hb a2)
  have b0' := cell_up hb b0
  have b1' := cell_up hb b1
  have b2' := cell_up hb b2
  have b0'' := cell_up h3 b0'
  have b1'' := cell_up h3 b1'
  have b2'' := cell_up h3 b2'
  have P := Lib.hid (And.intro a0' (And.intro a1' (And.intro a2' (And.intro b0'' (And.intro b1'' b2'')))))
  have lb : w.heap.size + 1 < wa.heap.size := World.block_lt_of_cell? wa _ b0'
  clear h3 hb hI a0 a1 a2 b0 b1 b2 a0' a1' a2' b0'' b1'' b2''
  go_wp2_with fail
  refine (toSib_any B m d ys g' u _ HBa.out HM).mono ?_
  rintro e wb ⟨bb, rfl, hb, hI⟩
  have h3 := bel_alloc wb (.cells #[.slice (some ⟨bb, 0, none⟩) m m, .bool g', .string u] 31)
  have HWb := Lib.hid ((HWa.out.trans (hb.mono HWa.out.size)).trans (h3.mono (HWa.out.trans (hb.mono HWa.out.size)).size))
  have HAb := Lib.hid ((HAa.out.step hb).step h3)
  have HBb := Lib.hid ((HBa.out.step hb).step h3)
  have HCb := Lib.hid ((HCa.out.step hb).step h3)
  have HDb := Lib.hid (hI.step h3)
  have Vb := Lib.hid (Var3.new 31 wb (.slice (some ⟨bb, 0, none⟩) m m) (.bool g') (.string u))
  have Va1 := Va.out.step hb
  have Va2 := Lib.hid (Va1.step h3)
  have x0 := Va1.c0
  have x1 := Va1.c1
  have x2 := Va1.c2
  have lx := Va1.lt
  obtain ⟨e0, e1, e2, e3, e4, e5⟩ := P.out
  have Q := Lib.hid (And.intro (cell_up h3 (cell_up hb e0)) (And.intro (cell_up h3 (cell_up hb e1)) (And.intro (cell_up h3 (cell_up hb e2)) (And.intro (cell_up h3 (cell_up hb e3)) (And.intro (cell_up h3 (cell_up hb e4)) (cell_up h3 (cell_up hb e5)))))))
  clear h3 hb hI e0 e1 e2 e3 e4 e5 P Va b0' b1' b2' Va1
  go_wp2_with fail
  refine (iSibCmp_any _ _ n m n m xs ys g g' t u _ HCb.out HDb.out hn hm).mono ?_
  rintro e wc ⟨rfl, hb⟩
  have hW := HWb.out.trans (hb.mono HWb.out.size)
  have hA := HAb.out.step hb
  have hB := HBb.out.step hb
  have hC := HCb.out.step hb
  have hD := HDb.out.step hb
  have Wa := Va2.out.step hb
  have Wb := Vb.out.step hb
  have c0 := Wa.c0
  have c1 := Wa.c1
  have c2 := Wa.c2
  have d0 := Wb.c0
  have d1 := Wb.c1
  have d2 := Wb.c2
  obtain ⟨e0, e1, e2, e3, e4, e5⟩ := Q.out
  have a0 := cell_up hb e0
  have a1 := cell_up hb e1
  have a2 := cell_up hb e2
  have b0 := cell_up hb e3
  have b1 := cell_up hb e4
  have b2 := cell_up hb e5
  clear hb e0 e1 e2 e3 e4 e5 Q Va2 Vb Wa Wb x0 x1 x2
  go_wp2
  go_region_held3 (fun w' => w'.cell? ⟨w.heap.size, 0, none⟩ = some (.slice A n c) ∧ w'.cell? ⟨w.heap.size, 1, none⟩ = some (.bool g) ∧ w'.cell? ⟨w.heap.size, 2, none⟩ = some (.string t) ∧ w'.cell? ⟨w.heap.size + 1, 0, none⟩ = some (.slice B m d) ∧ w'.cell? ⟨w.heap.size + 1, 1, none⟩ = some (.bool g') ∧ w'.cell? ⟨w.heap.size + 1, 2, none⟩ = some (.string u) ∧ w'.cell? ⟨wa.heap.size, 0, none⟩ = some (.slice (some ⟨ba, 0, none⟩) n n) ∧ w'.cell? ⟨wa.heap.size, 1, none⟩ = some (.bool g) ∧ w'.cell? ⟨wa.heap.size, 2, none⟩ = some (.string t) ∧ w'.cell? ⟨wb.heap.size, 0, none⟩ = some (.slice (some ⟨bb, 0, none⟩) m m) ∧ w'.cell? ⟨wb.heap.size, 1, none⟩ = some (.bool g') ∧ w'.cell? ⟨wb.heap.size, 2, none⟩ = some (.string u) ∧ Has w' A n xs ∧ Has w' B m ys ∧ Has w' (some ⟨ba, 0, none⟩) n xs ∧ Has w' (some ⟨bb, 0, none⟩) m ys ∧ Below w.heap.size w w')
    (first
      | exact ⟨a0, a1, a2, b0, b1, b2, c0, c1, c2, d0, d1, d2, hA, hB, hC, hD, hW.drew⟩
      | (go_split_ands
         exact ⟨cell_up hb (by assumption), cell_up hb (by assumption), cell_up hb (by assumption), cell_up hb (by assumption), cell_up hb (by assumption), cell_up hb (by assumption), cell_up hb (by assumption), cell_up hb (by assumption), cell_up hb (by assumption), cell_up hb (by assumption), cell_up hb (by assumption), cell_up hb (by assumption), Has.step (by assumption) hb, Has.step (by assumption) hb, Has.step (by assumption) hb, Has.step (by assumption) hb, Below.trans (by assumption) (hb.mono (Below.size (by assumption)))⟩))
    (first
      | (go_at_call 20; go_split_ands; refine (toSib_any _ _ _ _ _ _ _ (by assumption) (by assumption)).mono ?_; rintro e w6 ⟨b6, rfl, hb, hI⟩)
      | (go_at_call 22; go_split_ands; refine (eqSib_any _ _ n n n n xs xs g g t t _ (by assumption) hI hn).mono ?_; clear hb; rintro e w6 ⟨rfl, hb⟩))
  rename_i hS
  clear a0 a1 a2 b0 b1 b2 c0 c1 c2 d0 d1 d2 hA hB hC hD hW hb
  obtain ⟨a0, a1, a2, b0, b1, b2, c0, c1, c2, d0, d1, d2, hA, hB, hC, hD, hW⟩ := hS
  go_wp2
  go_region_held3 (fun w' => w'.cell? ⟨w.heap.size, 0, none⟩ = some (.slice A n c) ∧ w'.cell? ⟨w.heap.size, 1, none⟩ = some (.bool g) ∧ w'.cell? ⟨w.heap.size, 2, none⟩ = some (.string t) ∧ w'.cell? ⟨w.heap.size + 1, 0, none⟩ = some (.slice B m d) ∧ w'.cell? ⟨w.heap.size + 1, 1, none⟩ = some (.bool g') ∧ w'.cell? ⟨w.heap.size + 1, 2, none⟩ = some (.string u) ∧ w'.cell? ⟨wa.heap.size, 0, none⟩ = some (.slice (some ⟨ba, 0, none⟩) n n) ∧ w'.cell? ⟨wa.heap.size, 1, none⟩ = some (.bool g) ∧ w'.cell? ⟨wa.heap.size, 2, none⟩ = some (.string t) ∧ w'.cell? ⟨wb.heap.size, 0, none⟩ = some (.slice (some ⟨bb, 0, none⟩) m m) ∧ w'.cell? ⟨wb.heap.size, 1, none⟩ = some (.bool g') ∧ w'.cell? ⟨wb.heap.size, 2, none⟩ = some (.string u) ∧ Has w' A n xs ∧ Has w' B m ys ∧ Has w' (some ⟨ba, 0, none⟩) n xs ∧ Has w' (some ⟨bb, 0, none⟩) m ys ∧ Below w.heap.size w w')
    (first
      | exact ⟨a0, a1, a2, b0, b1, b2, c0, c1, c2, d0, d1, d2, hA, hB, hC, hD, hW.drew⟩
      | (go_split_ands
         exact ⟨cell_up hb (by assumption), cell_up hb (by assumption), cell_up hb (by assumption), cell_up hb (by assumption), cell_up hb (by assumption), cell_up hb (by assumption), cell_up hb (by assumption), cell_up hb (by assumption), cell_up hb (by assumption), cell_up hb (by assumption), cell_up hb (by assumption), cell_up hb (by assumption), Has.step (by assumption) hb, Has.step (by assumption) hb, Has.step (by assumption) hb, Has.step (by assumption) hb, Below.trans (by assumption) (hb.mono (Below.size (by assumption)))⟩))
    (first
      | (go_at_call 20; go_split_ands; refine (toSib_any _ _ _ _ _ _ _ (by assumption) (by assumption)).mono ?_; rintro e w6 ⟨b6, rfl, hb, hI⟩)
      | (go_at_call 22; go_split_ands; refine (eqSib_any _ _ m m m m ys ys g' g' u u _ (by assumption) hI hm).mono ?_; clear hb; rintro e w6 ⟨rfl, hb⟩))
  rename_i hS
  clear a0 a1 a2 b0 b1 b2 c0 c1 c2 d0 d1 d2 hA hB hC hD hW hb
  obtain ⟨a0, a1, a2, b0, b1, b2, c0, c1, c2, d0, d1, d2, hA, hB, hC, hD, hW⟩ := hS
  have HE := Lib.hid hW
  clear hW hA hB hC hD
  go_wp2
  go_ret
  exact ⟨rfl, HE.out⟩

end Go.Proofs.YtkcoeeekeddgaaaDoor
