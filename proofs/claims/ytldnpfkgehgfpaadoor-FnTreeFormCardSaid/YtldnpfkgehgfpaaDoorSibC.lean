
/-
  Contracts of compareSibs and of what it calls, in the form that a drawn region wants.
-/
import Derived.Test.YtldnpfkgehgfpaaDoorSibB
import Derived.Deep.RegionHeld3
namespace Go.Proofs.YtldnpfkgehgfpaaDoor
open Go.RowKit Go.PlainAid

theorem cell_upC {w w' : World} {a : Addr} {v : Value} (hb : Below w.heap.size w w') (h : w.cell? a = some v) : w'.cell? a = some v := (hb.cell (World.block_lt_of_cell? w _ h)).trans h
theorem compare_h {A B : Option Addr} {n m c d : Nat} {xs ys : List Int} {w : World} (h1 : Has w A n xs) (h2 : Has w B m ys) (hn : n ≤ maxLen) :
    Calls Tryd.prog 39 #[.slice A n c, .slice B m d] w fun e w' => e = .returned (.int .i64 (cmpV xs ys)) ∧ Below w.heap.size w w' :=
  (compare_any A B n m c d xs ys w _ _ _ _ h1 h2 hn).mono fun _ _ ⟨he, hw⟩ => ⟨he, bel_of_eq hw⟩
theorem cmpInt_h (a b : Int) (w : World) : Calls Tryd.prog 40 #[.int .i64 a, .int .i64 b] w fun e w' => e = .returned (.int .i64 (cmpI a b)) ∧ Below w.heap.size w w' :=
  (cmpInt_any a b w).mono fun _ _ ⟨he, hw⟩ => ⟨he, bel_of_eq hw⟩
theorem cmpStr_h (t u : ByteArray) (w : World) : Calls Tryd.prog 41 #[.string t, .string u] w fun e w' => e = .returned (.int .i64 (cmpT t u)) ∧ Below w.heap.size w w' :=
  (cmpStr_any t u w).mono fun _ _ ⟨he, hw⟩ => ⟨he, bel_of_eq hw⟩
theorem or_h {A : Option Addr} {n c : Nat} {xs : List Int} {w : World} (h : Has w A n xs) (hn : n ≤ maxLen) : Calls Tryd.prog 38 #[.slice A n c] w fun e w' => e = .returned (.int .i64 (orL xs)) ∧ Below w.heap.size w w' :=
  (or_any A n c xs w _ _ h hn).mono fun _ _ ⟨he, hw⟩ => ⟨he, bel_of_eq hw⟩

def goneI (g : Bool) : Int := if g then 0 else 1
set_option maxRecDepth 100000 in
theorem gone_h (A : Option Addr) (n c : Nat) (g : Bool) (t : ByteArray) (w : World) :
    Calls Tryd.prog 37 #[.agg #[.slice A n c, .bool g, .string t]] w fun e w' => e = .returned (.int .i64 (goneI g)) ∧ Below w.heap.size w w' := by
  cases g
  · go_enter Tryd.func37, Tryd.ntmps37
    go_wp2
    go_ret
    exact ⟨rfl, bel_alloc _ _⟩
  · go_enter Tryd.func37, Tryd.ntmps37
    go_wp2
    go_ret
    exact ⟨rfl, bel_alloc _ _⟩

theorem or_cmpS (xs ys : List Int) (g g' : Bool) (t u : ByteArray) : orL [cmpV xs ys, cmpI (goneI g) (goneI g'), cmpT t u] = cmpS ⟨xs, g, t⟩ ⟨ys, g', u⟩ := by
  show orL [cmpV xs ys, cmpG g g', cmpT t u] = _
  simp only [orL, cmpS]
  by_cases h1 : cmpV xs ys = 0
  · by_cases h2 : cmpG g g' = 0
    · by_cases h3 : cmpT t u = 0 <;> simp [h1, h2, h3]
    · simp [h1, h2]
  · simp [h1]

set_option maxRecDepth 100000 in
set_option maxHeartbeats 1600000 in
theorem compareSibs_any (A B : Option Addr) (n m c d : Nat) (xs ys : List Int) (g g' : Bool) (t u : ByteArray) (w : World) (h1 : Has w A n xs) (h2 : Has w B m ys) (hn : n ≤ maxLen) :
    Calls Tryd.prog 25 #[.agg #[.slice A n c, .bool g, .string t], .agg #[.slice B m d, .bool g', .string u]] w fun e w' => e = .returned (.int .i64 (cmpS ⟨xs, g, t⟩ ⟨ys, g', u⟩)) ∧ Below w.heap.size w w' := by
  have b1 := bel_alloc w (.cells #[.slice A n c, .bool g, .string t] 43)
  have b2 := bel_alloc (w.alloc (.cells #[.slice A n c, .bool g, .string t] 43)) (.cells #[.slice B m d, .bool g', .string u] 43)
  have BW := Lib.hid (b1.trans (b2.mono b1.size))
  have I1 := Lib.hid ((h1.step b1).step b2)
  have I2 := Lib.hid ((h2.step b1).step b2)
  have V1 := Lib.hid ((Var3.new 43 w (.slice A n c) (.bool g) (.string t)).step b2)
  have V2 : Hid (Var3 43 ((w.alloc (.cells #[.slice A n c, .bool g, .string t] 43)).alloc (.cells #[.slice B m d, .bool g', .string u] 43)) (w.heap.size + 1) (.slice B m d) (.bool g') (.string u)) :=
    Lib.hid (by simpa using Var3.new 43 (w.alloc (.cells #[.slice A n c, .bool g, .string t] 43)) (.slice B m d) (.bool g') (.string u))
  have HS := Lib.hid (or_cmpS xs ys g g' t u)
  clear b1 b2 h1 h2
  go_enter Tryd.func25, Tryd.ntmps25
  go_wp2
  go_region_held3 (fun w' => w'.cell? ⟨w.heap.size, 0, none⟩ = some (.slice A n c) ∧ w'.cell? ⟨w.heap.size, 1, none⟩ = some (.bool g) ∧ w'.cell? ⟨w.heap.size, 2, none⟩ = some (.string t) ∧ w'.cell? ⟨w.heap.size + 1, 0, none⟩ = some (.slice B m d) ∧ w'.cell? ⟨w.heap.size + 1, 1, none⟩ = some (.bool g') ∧ w'.cell? ⟨w.heap.size + 1, 2, none⟩ = some (.string u) ∧ Has w' A n xs ∧ Has w' B m ys ∧ Below w.heap.size w w')
    (first
      | exact ⟨V1.out.c0, V1.out.c1, V1.out.c2, V2.out.c0, V2.out.c1, V2.out.c2, by exact I1.out, by exact I2.out, BW.out.drew⟩
      | (go_split_ands
         exact ⟨cell_upC hb (by assumption), cell_upC hb (by assumption), cell_upC hb (by assumption), cell_upC hb (by assumption), cell_upC hb (by assumption), cell_upC hb (by assumption), Has.step (by assumption) hb, Has.step (by assumption) hb, Below.trans (by assumption) (hb.mono (Below.size (by assumption)))⟩)
      | (go_split_ands
         exact ⟨cell_upC (bel_alloc _ _) (by assumption), cell_upC (bel_alloc _ _) (by assumption), cell_upC (bel_alloc _ _) (by assumption), cell_upC (bel_alloc _ _) (by assumption), cell_upC (bel_alloc _ _) (by assumption), cell_upC (bel_alloc _ _) (by assumption), Has.step (by assumption) (bel_alloc _ _), Has.step (by assumption) (bel_alloc _ _), Below.trans (by assumption) ((bel_alloc _ _).mono (Below.size (by assumption)))⟩))
    (first
      | (go_at_call 39; go_split_ands; refine (compare_h (by assumption) (by assumption) hn).mono ?_; rintro e w6 ⟨rfl, hb⟩)
      | (go_at_call 37; refine (gone_h _ _ _ _ _ _).mono ?_; rintro e w6 ⟨rfl, hb⟩)
      | (go_at_call 40; refine (cmpInt_h _ _ _).mono ?_; rintro e w6 ⟨rfl, hb⟩)
      | (go_at_call 41; refine (cmpStr_h _ _ _).mono ?_; rintro e w6 ⟨rfl, hb⟩)
      | (go_at_call 38; refine (or_h (Has.three _ _ _ _) (by unfold maxLen; omega)).mono ?_; rintro e w6 ⟨rfl, hb⟩))
  all_goals go_split_ands
  all_goals go_wp2
  all_goals go_ret
  all_goals exact ⟨ret_int HS.out, by assumption⟩

end Go.Proofs.YtldnpfkgehgfpaaDoor
