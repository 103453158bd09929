
/-
  The walk of the law FnExactSibOk.
-/
import Derived.Test.YtkcoeeekeddgaaaDoorSibTrim
import Derived.Test.YtkcoeeekeddgaaaDoorSibE
import Derived.Deep.RegionHeld3
namespace Go.Proofs.YtkcoeeekeddgaaaDoor
open Go.RowKit Go.PlainAid

theorem cell_up {w w' : World} {a : Addr} {v : Value} (hb : Below w.heap.size w w') (h : w.cell? a = some v) : w'.cell? a = some v := (hb.cell (World.block_lt_of_cell? w _ h)).trans h

set_option maxRecDepth 100000 in
set_option maxHeartbeats 1600000 in
theorem FnExactSibOk_walk (A : Option Addr) (n c : Nat) (xs : List Int) (g : Bool) (t : ByteArray) (w : World) (h : Has w A n xs) (hn : n ≤ maxLen) (hs : t.size ≤ maxLen) :
    Calls Tryd.prog 4 #[.agg #[.slice A n c, .bool g, .string t]] w fun e w' => e = .returned (.bool true) ∧ Below w.heap.size w w' := by
  have B0 := Lib.hid (bel_alloc w (.cells #[.slice A n c, .bool g, .string t] 28))
  have H0 := Lib.hid (h.step B0.out)
  have V0 := Lib.hid (Var3.new 28 w (.slice A n c) (.bool g) (.string t))
  clear h
  go_enter Tryd.func4, Tryd.ntmps4
  go_wp2_with fail
  refine (szSib_any A n c g t 1048576 _ hn hs (by omega) (by omega)).mono ?_
  rintro e w1 ⟨r, rfl, hr, hb⟩
  have B1 := Lib.hid (B0.out.trans (hb.mono B0.out.size))
  have H1 := Lib.hid (H0.out.step hb)
  have V1 := Lib.hid (V0.out.step hb)
  clear hb
  rcases hr with rfl | ⟨hr0, hr1⟩
  · go_wp2
    go_ret
    exact ⟨rfl, B1.out⟩
  · have i0 : ¬ r < 0 := by omega
    have hn' : n ≤ 1048576 := by omega
    have a0 := V1.out.c0
    have a1 := V1.out.c1
    have a2 := V1.out.c2
    go_wp2_with fail
    refine (toSib_any A n c xs g t _ H1.out hn').mono ?_
    rintro e w2 ⟨b2, rfl, hb, hI⟩
    have B2 := Lib.hid (B1.out.trans (hb.mono B1.out.size))
    have H2 := Lib.hid (H1.out.step hb)
    have V2 := Lib.hid (V1.out.step hb)
    have I2 := Lib.hid hI
    clear hb hI a0 a1 a2
    go_wp2_with fail
    refine (sSibOk_any _ n n xs g t _ I2.out hn hs).mono ?_
    rintro e w3 ⟨rfl, hb⟩
    have B3 := Lib.hid (B2.out.trans (hb.mono B2.out.size))
    have H3 := Lib.hid (H2.out.step hb)
    have V3 := Lib.hid (V2.out.step hb)
    have a0 := V3.out.c0
    have a1 := V3.out.c1
    have a2 := V3.out.c2
    clear hb
    go_wp2_with fail
    refine (toSib_any A n c xs g t _ H3.out hn').mono ?_
    rintro e w4 ⟨b4, rfl, hb, hI⟩
    have hA := bel_alloc w4 (.cells #[.slice (some ⟨b4, 0, none⟩) n n, .bool g, .string t] 31)
    have B4 := Lib.hid ((B3.out.trans (hb.mono B3.out.size)).trans (hA.mono (B3.out.trans (hb.mono B3.out.size)).size))
    have H4 := Lib.hid ((H3.out.step hb).step hA)
    have V4 := Lib.hid ((V3.out.step hb).step hA)
    have I4 := Lib.hid (hI.step hA)
    have U4 := Lib.hid (Var3.new 31 w4 (.slice (some ⟨b4, 0, none⟩) n n) (.bool g) (.string t))
    clear hb hI hA a0 a1 a2
    go_wp2_with fail
    refine (iSibOk_any _ n n xs g t _ I4.out hn).mono ?_
    rintro e w5 ⟨rfl, hb⟩
    have B5 := Lib.hid (B4.out.trans (hb.mono B4.out.size))
    have H5 := Lib.hid (H4.out.step hb)
    have I5 := Lib.hid (I4.out.step hb)
    have V5 := V4.out.step hb
    have U5 := U4.out.step hb
    have a0 := V5.c0
    have a1 := V5.c1
    have a2 := V5.c2
    have c0 := U5.c0
    have c1 := U5.c1
    have c2 := U5.c2
    clear hb V5 U5
    go_wp2
    go_region_held3 (fun w' => w'.cell? ⟨w.heap.size, 0, none⟩ = some (.slice A n c) ∧ w'.cell? ⟨w.heap.size, 1, none⟩ = some (.bool g) ∧ w'.cell? ⟨w.heap.size, 2, none⟩ = some (.string t) ∧ w'.cell? ⟨w4.heap.size, 0, none⟩ = some (.slice (some ⟨b4, 0, none⟩) n n) ∧ w'.cell? ⟨w4.heap.size, 1, none⟩ = some (.bool g) ∧ w'.cell? ⟨w4.heap.size, 2, none⟩ = some (.string t))
      (first
        | go_keep
        | (go_split_ands
           exact ⟨cell_up hb (by assumption), cell_up hb (by assumption), cell_up hb (by assumption), cell_up hb (by assumption), cell_up hb (by assumption), cell_up hb (by assumption)⟩))
      (first
        | (go_at_call 20; refine (toSib_any A n c xs g t _ (by exact H5.out) hn').mono ?_; rintro e w6 ⟨b6, rfl, hb, hI⟩)
        | (go_at_call 22; refine (eqSib_any _ _ n n n n xs xs g g t t _ (Has.step (by exact I5.out) hb) hI hn).mono ?_; have hb6 := hb; clear hb; rintro e w7 ⟨rfl, hb⟩))
    have B6 := Lib.hid (B5.out.drew.trans (hb6.mono B5.out.size))
    have B7 := Lib.hid (B6.out.trans (hb.mono B6.out.size))
    clear hb hb6
    go_wp2
    go_ret
    exact ⟨rfl, B7.out⟩

end Go.Proofs.YtkcoeeekeddgaaaDoor
