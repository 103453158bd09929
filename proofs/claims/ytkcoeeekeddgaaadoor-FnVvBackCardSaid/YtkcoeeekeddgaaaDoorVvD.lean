
/-
  Contracts of VvIn and VvJoin (the program's and the reference's), isSite.
-/
import Derived.Test.YtkcoeeekeddgaaaDoorVvC
namespace Go.Proofs.YtkcoeeekeddgaaaDoor
open Go.RowKit

def vvInOk (xs ys : List Int) : Bool := vvOk xs && (vvOk ys && vvIn xs ys)
def vvJoinOk (xs ys : List Int) : List Int := if vvOk xs && vvOk ys then vvJoin xs ys else []

set_option maxRecDepth 100000 in
theorem iVvIn_any (A B : Option Addr) (n m c d : Nat) (xs ys : List Int) (w : World) (lo hi lo' hi' : Nat) (h1 : Ints w lo hi A n xs) (h2 : Ints w lo' hi' B m ys) (hn : n ≤ maxLen) (hm : m ≤ maxLen) :
    Calls Tryd.prog 30 #[.slice A n c, .slice B m d] w fun e w' => e = .returned (.bool (vvInOk xs ys)) ∧ w = w' := by
  have H1 := Lib.hid h1
  have H2 := Lib.hid h2
  clear h1 h2
  by_cases k1 : vvOk xs = true
  · have n3 : n = 3 := H1.out.len.symm.trans (vvOk_len k1)
    have N3 := Lib.hid n3
    clear n3
    by_cases k2 : vvOk ys = true
    · have m3 : m = 3 := H2.out.len.symm.trans (vvOk_len k2)
      have M3 := Lib.hid m3
      clear m3
      go_enter Tryd.func30, Tryd.ntmps30
      go_wp2_with fail
      refine (isVv_any A n c xs _ lo hi H1.out hn).mono ?_
      rintro e w' ⟨rfl, rfl⟩
      go_wp2_with fail
      refine (isVv_any B m d ys _ lo' hi' H2.out hm).mono ?_
      rintro e w' ⟨rfl, rfl⟩
      go_wp2_with fail
      refine (vvIn_any A B n m c d xs ys _ lo hi lo' hi' H1.out H2.out N3.out M3.out).mono ?_
      rintro e w' ⟨rfl, rfl⟩
      go_wp2
      go_ret
      exact ⟨ret_bool (by simp [vvInOk, k1, k2]), rfl⟩
    · have k2' : vvOk ys = false := by simpa using k2
      clear k2
      go_enter Tryd.func30, Tryd.ntmps30
      go_wp2_with fail
      refine (isVv_any A n c xs _ lo hi H1.out hn).mono ?_
      rintro e w' ⟨rfl, rfl⟩
      go_wp2_with fail
      refine (isVv_any B m d ys _ lo' hi' H2.out hm).mono ?_
      rintro e w' ⟨rfl, rfl⟩
      go_wp2
      go_ret
      exact ⟨ret_bool (by simp [vvInOk, k2']), rfl⟩
  · have k1' : vvOk xs = false := by simpa using k1
    clear k1
    go_enter Tryd.func30, Tryd.ntmps30
    go_wp2_with fail
    refine (isVv_any A n c xs _ lo hi H1.out hn).mono ?_
    rintro e w' ⟨rfl, rfl⟩
    go_wp2
    go_ret
    exact ⟨ret_bool (by simp [vvInOk, k1']), rfl⟩

/-- A list of integers that the call has made, or nothing. -/
def MadeInts (w w' : World) (zs : List Int) (e : Ending) : Prop :=
  ∃ A' c', e = .returned (.slice A' zs.length c') ∧ Below w.heap.size w w' ∧ w'.ownsRow w.heap.size 3 1 (.slice A' zs.length c') zs.length (zs.map (Value.int .i64))
theorem MadeInts.of {w w' : World} {zs : List Int} {n : Nat} {A' : Option Addr} {c' : Nat} (hn : zs.length = n) (hb : Below w.heap.size w w') (ho : w'.ownsRow w.heap.size 3 1 (.slice A' n c') n (zs.map (Value.int .i64))) :
    MadeInts w w' zs (.returned (.slice A' n c')) := by subst hn; exact ⟨A', c', rfl, hb, ho⟩
theorem MadeInts.nil (w : World) {zs : List Int} (hz : zs = []) : MadeInts w w zs (.returned (.slice none 0 0)) := by
  subst hz; exact ⟨none, 0, rfl, Below.refl _ _, World.ownsRow_nil _ _ _ _⟩
theorem MadeInts.empty (w : World) {zs : List Int} (hz : zs = []) : MadeInts w (w.alloc (.cells #[] 3)) zs (.returned (.slice (some ⟨w.heap.size, 0, none⟩) 0 0)) := by
  subst hz; exact ⟨_, 0, rfl, (Below.refl _ _).alloc (Nat.le_refl _) _, World.ownsRow_lit w #[] 0 (Nat.le_refl _) (by unfold maxLen; omega) rfl⟩

end Go.Proofs.YtkcoeeekeddgaaaDoor
