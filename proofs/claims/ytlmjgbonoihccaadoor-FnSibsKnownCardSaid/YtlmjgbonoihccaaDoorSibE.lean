
/-
  Contracts of the helpers of the exact laws on one version: szIntS, szSib, toSib, eqSib.
-/
import Derived.Test.YtlmjgbonoihccaaDoorSibMem
namespace Go.Proofs.YtlmjgbonoihccaaDoor
open Go.RowKit Go.PlainAid

theorem Ints.setC {w : World} {lo hi n : Nat} {A : Option Addr} {xs : List Int} {q : Addr} {u : Value} (h : Ints w lo hi A n xs) (hq : q.block < lo ∨ hi ≤ q.block) : Ints (w.setCell q u) lo hi A n xs := h.keep fun b h1 h2 => Below.heap_setCell w q u b (by omega)

set_option maxRecDepth 100000 in
theorem szIntS_any (A : Option Addr) (n c : Nat) (left : Int) (w : World) (hn : n ≤ maxLen) (h0 : 0 ≤ left) (h1 : left ≤ 1048576) :
    Calls Tryd.prog 87 #[.slice A n c, .int .i64 left] w fun e w' => ∃ r : Int, e = .returned (.int .i64 r) ∧ (r = -1 ∨ (0 ≤ r ∧ r + n = left)) ∧ w = w' := by
  unfold maxLen at hn
  have hw : IntKind.i64.wrap (left - (n : Int)) = left - (n : Int) := IntWalk.i64_in _ (by omega)
  by_cases hb : left - (n : Int) < 0
  · go_enter Tryd.func87, Tryd.ntmps87
    go_wp2
    go_ret
    exact ⟨-1, rfl, .inl rfl, rfl⟩
  · go_enter Tryd.func87, Tryd.ntmps87
    go_wp2
    go_ret
    exact ⟨_, rfl, .inr ⟨by omega, by omega⟩, rfl⟩

set_option maxRecDepth 100000 in
theorem szSib_any (A : Option Addr) (n c : Nat) (g : Bool) (t : ByteArray) (left : Int) (w : World) (hn : n ≤ maxLen) (hs : t.size ≤ maxLen) (h0 : 0 ≤ left) (h1 : left ≤ 1048576) :
    Calls Tryd.prog 60 #[.agg #[.slice A n c, .bool g, .string t], .int .i64 left] w fun e w' => ∃ r : Int, e = .returned (.int .i64 r) ∧ (r = -1 ∨ (0 ≤ r ∧ r + n + t.size = left)) ∧ Below w.heap.size w w' := by
  go_enter Tryd.func60, Tryd.ntmps60
  go_wp2_with fail
  refine (szIntS_any A n c left _ hn h0 h1).mono ?_
  rintro e w' ⟨r, rfl, hr, rfl⟩
  unfold maxLen at hs
  rcases hr with rfl | ⟨hr0, hr1⟩
  · go_wp2
    go_ret
    exact ⟨-1, rfl, .inl rfl, bel_alloc _ _⟩
  · have i0 : ¬ r < 0 := by omega
    have hw : IntKind.i64.wrap (r - (t.size : Int)) = r - (t.size : Int) := IntWalk.i64_in _ (by omega)
    by_cases hb : r - (t.size : Int) < 0
    · go_wp2
      go_ret
      exact ⟨-1, rfl, .inl rfl, bel_alloc _ _⟩
    · go_wp2
      go_ret
      exact ⟨_, rfl, .inr ⟨by omega, by omega⟩, bel_alloc _ _⟩

set_option maxRecDepth 100000 in
theorem toSib_any (A : Option Addr) (n c : Nat) (xs : List Int) (g : Bool) (t : ByteArray) (w : World) (h : Has w A n xs) (hn : n ≤ 1048576) :
    Calls Tryd.prog 62 #[.agg #[.slice A n c, .bool g, .string t]] w fun e w' => ∃ b, e = .returned (.agg #[.slice (some ⟨b, 0, none⟩) n n, .bool g, .string t]) ∧ Below w.heap.size w w' ∧ Has w' (some ⟨b, 0, none⟩) n xs := by
  have hW := Lib.hid (((bel_alloc w (.cells #[.slice A n c, .bool g, .string t] 68)).alloc (by simp) (.cells #[.slice none 0 0, .bool false, .string ⟨#[]⟩] 31)).alloc (by simp; omega) (.cells #[.slice none 0 0, .bool false, .string ⟨#[]⟩] 31))
  have H := Lib.hid (h.step hW.out)
  have V1 := Lib.hid (((Var3.new 68 w (.slice A n c) (.bool g) (.string t)).alloc (.cells #[.slice none 0 0, .bool false, .string ⟨#[]⟩] 31)).alloc (.cells #[.slice none 0 0, .bool false, .string ⟨#[]⟩] 31))
  have V2 := Lib.hid ((Var3.new 31 (w.alloc (.cells #[.slice A n c, .bool g, .string t] 68)) (.slice none 0 0) (.bool false) (.string ⟨#[]⟩)).alloc (.cells #[.slice none 0 0, .bool false, .string ⟨#[]⟩] 31))
  have V3 := Lib.hid (Var3.new 31 ((w.alloc (.cells #[.slice A n c, .bool g, .string t] 68)).alloc (.cells #[.slice none 0 0, .bool false, .string ⟨#[]⟩] 31)) (.slice none 0 0) (.bool false) (.string ⟨#[]⟩))
  clear h
  go_enter Tryd.func62, Tryd.ntmps62
  go_wp2_with fail
  refine (toIntS_any A n c xs _ _ _ H.out (Nat.le_refl _) hn).mono ?_
  rintro e w1 ⟨b, rfl, hb, ho⟩
  have I1 := Lib.hid (Ints.own ho (Nat.le_refl _) (Nat.le_refl _))
  have U1 : Var3 68 w1 w.heap.size (.slice A n c) (.bool g) (.string t) := V1.out.step hb
  have U2 : Var3 31 w1 (w.heap.size + 1) (.slice none 0 0) (.bool false) (.string ⟨#[]⟩) := by simpa using V2.out.step hb
  have U3 : Var3 31 w1 (w.heap.size + 1 + 1) (.slice none 0 0) (.bool false) (.string ⟨#[]⟩) := by simpa using V3.out.step hb
  have HB := Lib.hid (hW.out.trans (hb.mono (by simp; omega)))
  have hsz : w.heap.size + 3 ≤ w1.heap.size := by have := hb.size; simp at this; omega
  have p1 := U1.c0
  have p2 := U1.c1
  have p3 := U1.c2
  have q1 := U2.c0
  have q2 := U2.c1
  have q3 := U2.c2
  have r1 := U3.c0
  have r2 := U3.c1
  have r3 := U3.c2
  have f2 := U2.f 0
  have f3 := U2.f 1
  have f4 := U2.f 2
  have g2 := U3.f 0
  have g3 := U3.f 1
  have g4 := U3.f 2
  clear hb ho U1 U2 U3
  go_wp2
  refine bodyPost_ret (v := .agg #[.slice (some ⟨b, 0, none⟩) n n, .bool g, .string t]) (by simp [results, Tryd.results62, go_sem, q1, q2, q3]) rfl ⟨b, rfl, ?_, ?_⟩
  · exact (((((HB.out.setCell (by simp; omega) _).setCell (by simp; omega) _).setCell (by simp; omega) _).setCell (by simp) _).setCell (by simp) _).setCell (by simp) _
  · refine Has.of (hi := w1.heap.size) ((((((I1.out.setC ?_).setC ?_).setC ?_).setC ?_).setC ?_).setC ?_) (by simp [World.setCell])
    all_goals (left; simp)

set_option maxRecDepth 100000 in
theorem eqSib_any (A B : Option Addr) (n m c d : Nat) (xs ys : List Int) (g g' : Bool) (t u : ByteArray) (w : World) (h1 : Has w A n xs) (h2 : Has w B m ys) (hn : n ≤ maxLen) :
    Calls Tryd.prog 63 #[.agg #[.slice A n c, .bool g, .string t], .agg #[.slice B m d, .bool g', .string u]] w fun e w' => e = .returned (.bool (decide (xs = ys) && (g == g') && (t.toList == u.toList))) ∧ Below w.heap.size w w' := by
  have hW := Lib.hid ((bel_alloc w (.cells #[.slice A n c, .bool g, .string t] 31)).alloc (by simp) (.cells #[.slice B m d, .bool g', .string u] 31))
  have H1 := Lib.hid (h1.step hW.out)
  have H2 := Lib.hid (h2.step hW.out)
  clear h1 h2
  obtain ⟨z, hz⟩ : ∃ z, (t.toList == u.toList) = z := ⟨_, rfl⟩
  obtain ⟨y, hy⟩ : ∃ y, decide (xs = ys) = y := ⟨_, rfl⟩
  go_enter Tryd.func63, Tryd.ntmps63
  go_wp2_with fail
  refine (eqIntS_any A B n m c d xs ys _ _ _ _ _ H1.out H2.out hn).mono ?_
  rintro e w' ⟨rfl, q, rfl⟩
  cases y <;> cases g <;> cases g' <;> cases z
  all_goals go_wp2
  all_goals go_ret
  all_goals exact ⟨ret_bool (by simp [hy, hz]), bel_drewN hW.out _⟩

end Go.Proofs.YtlmjgbonoihccaaDoor
