
/-
  Contracts of SibCmp (the program's and the reference's) and of l2Cmp.
-/
import Derived.Test.YtldnpfkgehgfpaaDoorSibC
import Derived.Test.YtldnpfkgehgfpaaDoorSibTrim
namespace Go.Proofs.YtldnpfkgehgfpaaDoor
open Go.RowKit Go.PlainAid

theorem cmpV3 {x0 x1 x2 y0 y1 y2 : Int} : cmpV [x0, x1, x2] [y0, y1, y2] = if x0 ≠ y0 then (if x0 < y0 then -1 else 1) else if x1 ≠ y1 then (if x1 < y1 then -1 else 1) else if x2 ≠ y2 then (if x2 < y2 then -1 else 1) else 0 := by
  simp only [cmpV]
  repeat' split
  all_goals omega

/-- What SibCmp says. -/
def cmpOk (a b : Sb) : Int := if sibOk a && sibOk b then cmpS a b else 0

set_option maxRecDepth 100000 in
set_option maxHeartbeats 1600000 in
theorem l2Cmp_any (A B : Option Addr) (n m c d : Nat) (xs ys : List Int) (g g' : Bool) (t u : ByteArray) (w : World) (h1 : Has w A n xs) (h2 : Has w B m ys) (hn : n = 3) (hm : m = 3) :
    Calls Tryd.prog 22 #[.agg #[.slice A n c, .bool g, .string t], .agg #[.slice B m d, .bool g', .string u]] w fun e w' => e = .returned (.int .i64 (cmpS ⟨xs, g, t⟩ ⟨ys, g', u⟩)) ∧ Below w.heap.size w w' := by
  have b1 := bel_alloc w (.cells #[.slice A n c, .bool g, .string t] 43)
  have b2 := bel_alloc (w.alloc (.cells #[.slice A n c, .bool g, .string t] 43)) (.cells #[.slice B m d, .bool g', .string u] 43)
  have BW := Lib.hid (b1.trans (b2.mono b1.size))
  have I1 := Lib.hid ((h1.step b1).step b2)
  have I2 := Lib.hid ((h2.step b1).step b2)
  have V1 := Lib.hid ((Var3.new 43 w (.slice A n c) (.bool g) (.string t)).step b2)
  have V2 : Hid (Var3 43 ((w.alloc (.cells #[.slice A n c, .bool g, .string t] 43)).alloc (.cells #[.slice B m d, .bool g', .string u] 43)) (w.heap.size + 1) (.slice B m d) (.bool g') (.string u)) :=
    Lib.hid (by simpa using Var3.new 43 (w.alloc (.cells #[.slice A n c, .bool g, .string t] 43)) (.slice B m d) (.bool g') (.string u))
  have L1 := Lib.hid (h1.len.trans hn)
  have L2 := Lib.hid (h2.len.trans hm)
  have i3 : 3 ≤ n := by omega
  have j3 : 3 ≤ m := by omega
  clear b1 b2 h1 h2 hn hm
  go_enter Tryd.func22, Tryd.ntmps22
  go_wp2
  go_loopw [5] (fun i wr => ∃ k : Nat, k ≤ 3 ∧ i = .int .i64 k ∧ Hid (∀ j, j < k → xs.getD j 0 = ys.getD j 0) ∧ Hid (Below w.heap.size w wr) ∧ Hid (Has wr A n xs) ∧ Hid (Has wr B m ys) ∧ Hid (Var3 43 wr w.heap.size (.slice A n c) (.bool g) (.string t)) ∧ Hid (Var3 43 wr (w.heap.size + 1) (.slice B m d) (.bool g') (.string u))) (fun i _ => 3 - (intOf i).toNat)
  case atStart => exact ⟨0, Nat.zero_le _, rfl, fun j hj => absurd hj (by omega), BW.out, I1.out, I2.out, V1.out, V2.out⟩
  case round =>
    obtain ⟨k, hk, rfl, hall, HB, J1, J2, U1, U2⟩ := hrel
    have HD := Lib.hid (cmpV_drop k xs ys (by rw [L1.out]; exact hk) (by rw [L2.out]; exact hk) hall.out)
    have a0 := U1.out.c0
    have a1 := U1.out.c1
    have a2 := U1.out.c2
    have b0 := U2.out.c0
    have b1 := U2.out.c1
    have b2 := U2.out.c2
    by_cases hlt : k < 3
    · obtain ⟨b, off, x, rfl, _, _, hc, hx⟩ := J1.out.at_ (k := k) (by omega)
      obtain ⟨b', off', y, rfl, _, _, hc', hy⟩ := J2.out.at_ (k := k) (by omega)
      have i1 : (k : Int) < (n : Int) := by omega
      have i2 : (k : Int) < (m : Int) := by omega
      have HX : Hid (cmpV xs ys = if x < y then -1 else if y < x then 1 else cmpV (xs.drop (k + 1)) (ys.drop (k + 1))) := Lib.hid (by
        rw [HD.out, drop_cons (xs := xs) (k := k) (by rw [L1.out]; exact hlt), drop_cons (xs := ys) (k := k) (by rw [L2.out]; exact hlt), hx.out, hy.out]; rfl)
      by_cases hxy : x = y
      · subst hxy
        go_wp2
        go_quiet (fail)
        go_wp2
        go_roundw
        case rel =>
          refine ⟨k + 1, by omega, by go_num, fun j hj => ?_, bel_drewN HB.out _, J1.out, J2.out, U1.out, U2.out⟩
          by_cases e : j = k
          · subst e; rw [hx.out, hy.out]
          · exact hall.out j (by omega)
        case measure => simp [intOf]; omega
      · have hne : (x != y) = true := by simpa using hxy
        have HN := Lib.hid hxy
        clear hxy
        by_cases hl : x < y
        · have HC : Hid (cmpS ⟨xs, g, t⟩ ⟨ys, g', u⟩ = -1) := Lib.hid (by unfold cmpS; rw [show cmpV xs ys = -1 by rw [HX.out, if_pos hl]]; rfl)
          go_wp2
          go_quiet (fail)
          go_wp2
          go_quiet (fail)
          go_wp2
          go_ret
          exact ⟨ret_int HC.out.symm, bel_drewN (bel_drewN HB.out _) _⟩
        · have HC : Hid (cmpS ⟨xs, g, t⟩ ⟨ys, g', u⟩ = 1) := Lib.hid (by unfold cmpS; rw [show cmpV xs ys = 1 by rw [HX.out, if_neg hl, if_pos (by have := HN.out; omega)]]; rfl)
          go_wp2
          go_quiet (fail)
          go_wp2
          go_quiet (fail)
          go_wp2
          go_ret
          exact ⟨ret_int HC.out.symm, bel_drewN (bel_drewN HB.out _) _⟩
    · have HV : Hid (cmpV xs ys = 0) := Lib.hid (by
        rw [HD.out, show xs.drop k = [] from List.drop_eq_nil_of_le (by rw [L1.out]; omega), show ys.drop k = [] from List.drop_eq_nil_of_le (by rw [L2.out]; omega)]; rfl)
      have HS : Hid (cmpS ⟨xs, g, t⟩ ⟨ys, g', u⟩ = if cmpG g g' ≠ 0 then cmpG g g' else cmpT t u) := Lib.hid (by unfold cmpS; rw [if_neg (by rw [HV.out]; decide)])
      have e1 := less_cmpT t u
      have e3 := less_cmpT u t
      have e2 := eq_cmpT t u
      have an := cmpT_good.anti t u
      rcases cmpT_good.one t u with h | h | h
      all_goals
        rw [h] at an
        rw [h] at e1 e2
        rw [an] at e3
        have HT := Lib.hid h
        clear an h
      · have e1' : Op.bytesLess t.toList u.toList = true := e1.trans (by decide)
        clear e1 e2 e3
        cases g <;> cases g'
        all_goals go_wp2
        all_goals go_ret
        all_goals exact ⟨ret_int (by rw [HS.out, HT.out]; rfl), HB.out⟩
      · have e1' : Op.bytesLess t.toList u.toList = false := e1.trans (by decide)
        have e2' : (t.toList == u.toList) = true := e2.trans (by decide)
        clear e1 e2 e3
        cases g <;> cases g'
        all_goals go_wp2
        all_goals go_ret
        all_goals exact ⟨ret_int (by rw [HS.out, HT.out]; rfl), HB.out⟩
      · have e1' : Op.bytesLess t.toList u.toList = false := e1.trans (by decide)
        have e2' : (t.toList == u.toList) = false := e2.trans (by decide)
        clear e1 e2 e3
        cases g <;> cases g'
        all_goals go_wp2
        all_goals go_ret
        all_goals exact ⟨ret_int (by rw [HS.out, HT.out]; rfl), HB.out⟩

end Go.Proofs.YtldnpfkgehgfpaaDoor
