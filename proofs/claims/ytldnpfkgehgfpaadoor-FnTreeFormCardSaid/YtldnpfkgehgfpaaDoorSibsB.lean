
/-
  Contracts of slices.IndexFunc and slices.ContainsFunc at versions, whatever the predicate; of areSibs and SibsOk (the program's).
-/
import Derived.Test.YtldnpfkgehgfpaaDoorSibsA
import Derived.Shelf.Abstract
namespace Go.Proofs.YtldnpfkgehgfpaaDoor
open Go.RowKit Go.PlainAid Go.Shelf

theorem any_none {ks : List Kv} {p : Sb → Bool} {n : Nat} (hl : ks.length = n) (h : ∀ j k, j < n → ks[j]? = some k → p k.s = false) : (sbs ks).any p = false := by
  rw [List.any_eq_false]
  intro s hs
  obtain ⟨k, hk, rfl⟩ := List.mem_map.1 hs
  obtain ⟨j, hj, rfl⟩ := List.getElem_of_mem hk
  rw [h j _ (by omega) (List.getElem?_eq_getElem hj)]
  exact Bool.false_ne_true
theorem any_some {ks : List Kv} {p : Sb → Bool} {j : Nat} {k : Kv} (hk : ks[j]? = some k) (h : p k.s = true) : (sbs ks).any p = true :=
  List.any_eq_true.2 ⟨k.s, List.mem_map.2 ⟨k, List.mem_of_getElem? hk, rfl⟩, h⟩

set_option maxRecDepth 100000 in
theorem indexFunc_any (p : Sb → Bool) (f : Nat) (lb : Array Value) (eg : ∀ args w, (callFunc f args).run Tryd.prog w = .ok (.enter f args) w) (A : Option Addr) (n c : Nat) (ks : List Kv) (w : World) (h : HasS w A n ks) (hn : n ≤ maxLen)
    (hp : ∀ (W : World) (k : Kv), k ∈ ks → Below w.heap.size w W → Calls Tryd.prog f (#[.agg #[.slice k.A k.n k.c, .bool k.s.gone, .string k.s.text]] ++ lb) W fun e w' => e = .returned (.bool (p k.s)) ∧ Below w.heap.size w w') :
    Calls Tryd.prog 42 #[.slice A n c, .func (.func f) #[] lb] w fun e w' => ∃ r : Int, e = .returned (.int .i64 r) ∧ decide (0 ≤ r) = (sbs ks).any p ∧ Below w.heap.size w w' := by
  unfold maxLen at hn
  have H := Lib.hid h
  have HP := Lib.hid hp
  clear h hp
  go_enter Tryd.func42, Tryd.ntmps42
  go_wp2
  go_loopw [8] (fun i wr => ∃ k : Nat, k ≤ n ∧ i = .int .i64 k ∧ Hid (Below w.heap.size w wr) ∧ Hid (∀ j x, j < k → ks[j]? = some x → p x.s = false)) (fun i _ => n - (intOf i).toNat)
  case atStart => exact ⟨0, Nat.zero_le _, rfl, Below.refl _ _, fun j x hj => absurd hj (by omega)⟩
  case round =>
    obtain ⟨k, hk, rfl, HB, hall⟩ := hrel
    by_cases hlt : k < n
    · obtain ⟨b, off, A', n', c', vv, g, t, rfl, hbl, c0, c1, c2, _, _, _, hx⟩ := H.out.at_ hlt
      have q0 := cell_upC HB.out c0
      have q1 := cell_upC HB.out c1
      have q2 := cell_upC HB.out c2
      have hcall := HP.out wr _ (List.mem_of_getElem? hx.out) HB.out
      clear c0 c1 c2
      by_cases hq : p ⟨vv, g, t⟩ = true
      · rw [hq] at hcall
        go_wp2_with (go_at_fn f; refine hcall.mono ?_; rintro e w' ⟨rfl, hb'⟩)
        go_ret
        exact ⟨k, rfl, by rw [any_some hx.out hq]; simp, hb'⟩
      · have hq' : p ⟨vv, g, t⟩ = false := by simpa using hq
        rw [hq'] at hcall
        clear hq
        go_wp2_with (go_at_fn f; refine hcall.mono ?_; rintro e w' ⟨rfl, hb'⟩)
        go_roundw
        case rel =>
          refine ⟨k + 1, by omega, by go_num, hb', fun j x hj hjx => ?_⟩
          by_cases e : j = k
          · subst e
            rw [hx.out] at hjx
            injection hjx with hjx
            subst hjx
            exact hq'
          · exact hall.out j x (by omega) hjx
        case measure => simp [intOf]; omega
    · go_wp2
      go_ret
      obtain rfl : k = n := by omega
      exact ⟨-1, rfl, by rw [any_none H.out.len hall.out]; rfl, HB.out⟩

set_option maxRecDepth 100000 in
theorem containsFunc_any (p : Sb → Bool) (f : Nat) (lb : Array Value) (eg : ∀ args w, (callFunc f args).run Tryd.prog w = .ok (.enter f args) w) (A : Option Addr) (n c : Nat) (ks : List Kv) (w : World) (h : HasS w A n ks) (hn : n ≤ maxLen)
    (hp : ∀ (W : World) (k : Kv), k ∈ ks → Below w.heap.size w W → Calls Tryd.prog f (#[.agg #[.slice k.A k.n k.c, .bool k.s.gone, .string k.s.text]] ++ lb) W fun e w' => e = .returned (.bool (p k.s)) ∧ Below w.heap.size w w') :
    Calls Tryd.prog 26 #[.slice A n c, .func (.func f) #[] lb] w fun e w' => e = .returned (.bool ((sbs ks).any p)) ∧ Below w.heap.size w w' := by
  have hc := indexFunc_any p f lb eg A n c ks w h hn hp
  clear h hp
  go_enter Tryd.func26, Tryd.ntmps26
  go_wp2_with fail
  refine hc.mono ?_
  rintro e w' ⟨r, rfl, hr, hb⟩
  have HR := Lib.hid hr
  clear hr
  by_cases h0 : 0 ≤ r
  · go_wp2
    go_ret
    exact ⟨ret_bool (by rw [← HR.out] <;> simpa using h0), hb⟩
  · go_wp2
    go_ret
    exact ⟨ret_bool (by rw [← HR.out] <;> simpa using h0), hb⟩

end Go.Proofs.YtldnpfkgehgfpaaDoor
