/-
  Contracts of the drawn counts: DrawVvText, DrawVvNext, DrawVvIn, DrawVvJoin.
-/
import Derived.Test.YtcpblncbljeccaaDrawB
import Derived.Deep.DeepCutAuto
namespace Go.Proofs.Ytcpblncbljeccaa
open Go.RowKit

/-- A slice of bytes that came in (a shell's 'IsRow'). -/
def Came (w : World) (A : Option Addr) (n c : Nat) (zs : List Int) : Prop :=
  (A = none ∧ n = 0 ∧ c = 0 ∧ zs = []) ∨ ∃ x, A = some x ∧ n ≤ c ∧ c ≤ maxLen ∧ zs.length = c ∧ (∀ i, i < zs.length → w.cell? (x.add i) = some (.int .u8 (zs.getD i 0))) ∧ ∀ n ∈ zs, (Lit.int .u8 n).wf = true
theorem Came.below {w w' : World} {A : Option Addr} {n c : Nat} {zs : List Int} (h : Came w A n c zs) (hb : Below w.heap.size w w') : Came w' A n c zs := by
  rcases h with h | ⟨x, h1, h2, h3, h4, h5, h6⟩
  · exact .inl h
  · exact .inr ⟨x, h1, h2, h3, h4, fun i hi => by rw [hb.cell (World.block_lt_of_cell? w _ (h5 i hi))]; exact h5 i hi, h6⟩

theorem DrawVvNext_any (A : Option Addr) (n c : Nat) (zs : List Int) (w : World) (h : Came w A n c zs) :
    Calls Try.prog 27 #[.slice A n c] w fun e w' => ∃ (A' : Option Addr) (n' c' : Nat) (xs : List Int) (s : Int), e = .returned (.tuple #[.slice A' n' c', .int .i64 s]) ∧ n' ≤ 3 ∧ Below w.heap.size w w' ∧ Ints w' w.heap.size w'.heap.size A' n' xs ∧ 1 ≤ s ∧ s ≤ 6 := by
  have H := Lib.hid h
  clear h
  go_enter Try.func27, Try.ntmps27
  go_wp2_with fail
  refine (open_any A n c zs _ H.out).mono ?_
  rintro e w1 ⟨g, rfl, hg, hb, hR⟩
  have B1 := Lib.hid hb
  have R1 := Lib.hid hR
  have s1 := hb.size
  clear hb hR
  go_wp2_with fail
  refine (l71Vv_ints g 0 _ R1.out (by omega)).mono ?_
  rintro e w2 ⟨A', n', c', xs, rfl, hn', hG, hI, p2, hp2, hR⟩
  have B2 := Lib.hid (B1.out.trans (hG.below hg s1))
  have I2 := Lib.hid hI
  have R2 := Lib.hid hR
  have s2 := hG.size
  have hgl := R1.out.lt
  clear hG hI hR
  go_wp2_with fail
  refine (pick_any g p2 3 _ R2.out (by omega) (by omega) (by omega)).mono ?_
  rintro e w3 ⟨v3, rfl, hv3, hG, hR⟩
  have B3 := Lib.hid (B2.out.trans (hG.below hg (by omega)))
  have I3 := Lib.hid (I2.out.keep (hG.keep (.inl hgl) (Nat.le_refl _)))
  have R3 := Lib.hid hR
  have s3 := hG.size
  clear hG hR
  go_wp2_with fail
  refine (pick_any g _ 24 _ R3.out (by omega) (by omega) (by omega)).mono ?_
  rintro e w4 ⟨v4, rfl, hv4, hG, hR⟩
  have B4 := Lib.hid (B3.out.trans (hG.below hg (by omega)))
  have I4 := Lib.hid (I3.out.keep (hG.keep (.inl hgl) (by omega)))
  have s4 := hG.size
  clear hG hR
  go_wp2
  go_ret2
  exact ⟨A', n', c', xs, _, rfl, hn', B4.out, I4.out.wide (by omega) (by omega), by omega, by omega⟩

theorem set_bound {ys : List Int} {k : Nat} {v : Int} (h : ∀ j, 0 ≤ ys.getD j 0 ∧ ys.getD j 0 ≤ 30) (h0 : 0 ≤ v) (h1 : v ≤ 30) : ∀ j, 0 ≤ (ys.set k v).getD j 0 ∧ (ys.set k v).getD j 0 ≤ 30 := by
  intro j
  have := h j
  rw [List.getD_eq_getElem?_getD, List.getElem?_set]
  rw [List.getD_eq_getElem?_getD] at this
  split
  · split
    · simpa using ⟨h0, h1⟩
    · simp
  · exact this

theorem DrawVvIn_any (A : Option Addr) (n c : Nat) (zs : List Int) (w : World) (h : Came w A n c zs) :
    Calls Try.prog 29 #[.slice A n c] w fun e w' => ∃ (A1 : Option Addr) (n1 c1 : Nat) (xs : List Int) (A2 : Option Addr) (n2 c2 : Nat) (ys : List Int), e = .returned (.tuple #[.slice A1 n1 c1, .slice A2 n2 c2]) ∧ n1 ≤ 3 ∧ n2 ≤ 3 ∧ Below w.heap.size w w' ∧ Ints w' w.heap.size w'.heap.size A1 n1 xs ∧ Ints w' w.heap.size w'.heap.size A2 n2 ys := by
  obtain ⟨i0, hi0, hz0, hz1, hz2⟩ := info_parts infoInt
  have Z2 := Lib.hid hz2
  have H := Lib.hid h
  clear h hz2
  go_enter Try.func29, Try.ntmps29
  go_wp2_with fail
  refine (open_any A n c zs _ H.out).mono ?_
  rintro e w1 ⟨g, rfl, hg, hb, hR⟩
  have B1 := Lib.hid hb
  have R1 := Lib.hid hR
  have s1 := hb.size
  clear hb hR
  go_wp2_with fail
  refine (l71Vv_ints g 0 _ R1.out (by omega)).mono ?_
  rintro e w2 ⟨A1, n1, c1, xs, rfl, hn1, hG, hI, p2, hp2, hR⟩
  have B2 := Lib.hid (B1.out.trans (hG.below hg s1))
  have I2 := Lib.hid hI
  have R2 := Lib.hid hR
  have s2 := hG.size
  have hgl := R1.out.lt
  clear hG hI hR
  go_wp2_with fail
  refine (l71Vv_ints g p2 _ R2.out (by omega)).mono ?_
  rintro e w3 ⟨A2, n2, c2, ys, rfl, hn2, hG, hI, p3, hp3, hR⟩
  have B3 := Lib.hid (B2.out.trans (hG.below hg (by omega)))
  have I3 := Lib.hid (I2.out.keep (hG.keep (.inl hgl) (Nat.le_refl _)))
  have J3 := Lib.hid hI
  have R3 := Lib.hid hR
  have s3 := hG.size
  clear hG hI hR
  go_wp2_with fail
  refine (pick_any g p3 2 _ R3.out (by omega) (by omega) (by omega)).mono ?_
  rintro e w4 ⟨v4, rfl, hv4, hG, hR⟩
  have B4 := Lib.hid (B3.out.trans (hG.below hg (by omega)))
  have I4 := Lib.hid (I3.out.keep (hG.keep (.inl hgl) (by omega)))
  have J4 := Lib.hid (J3.out.keep (hG.keep (.inl (by omega)) (by omega)))
  have R4 := Lib.hid hR
  have s4 := hG.size
  clear hG hR
  by_cases k0 : v4 = 0
  · subst k0
    by_cases k1 : vvOk xs = true
    · have m3 := Lib.hid (I4.out.len.symm.trans (vvOk_len k1))
      obtain ⟨b, off, hA, hb1, hb2, hcell⟩ := I4.out.2 (by have := m3.out; omega)
      have HA := Lib.hid hA
      subst hA
      go_wp2_with fail
      refine (sVvOk_any _ n1 c1 xs _ _ _ I4.out (by unfold maxLen; omega)).mono ?_
      rintro e w' ⟨rfl, rfl⟩
      go_wp2_with (at_builtin; refine wpList_append_lies _ (by rfl) (.tmp 21) (.tmp 22) 23 (by rfl) w4.heap.size 3 i0 (.int .i64 0) 1 8 Try.underlying23 hi0 hz0 hz1 Z2.out rfl (by decide) _ 0 [] (by rfl) (emptyInts w4) ⟨b, off, none⟩ n1 c1 (xs.map (Value.int .i64)) (by rfl) (by rw [List.length_map, I4.out.len]; omega) (Row.news (Row.below I4.out ((Below.refl w4.heap.size w4).alloc (Nat.le_refl _) _) (by omega))) (oneInts xs) (by have := m3.out; omega) (by unfold maxLen; omega) (by omega) (by simp) (w4.heap.size + 1) (by simp) ?_; intro gg cap w5 hown hgrow hat hlt
                   have hO5 : OwnInts w5 w4.heap.size w5.heap.size (some ⟨gg, 0, none⟩) n1 cap xs := OwnInts.of (by simpa using hown) (Nat.le_refl _)
                   have hb5 : Below w4.heap.size w4 w5 := ((Below.refl w4.heap.size w4).alloc (Nat.le_refl _) _).grown hgrow (by simp) (fun g hg => ((emptyInts w4).lt g hg).1)
                   have O5 := Lib.hid hO5
                   have B5 := Lib.hid hb5
                   have s5 := hb5.size
                   clear hown hgrow hat hO5 hb5)
      have hgg := (O5.out.head (by have := m3.out; omega))
      have hgl4 := R4.out.lt
      have hX := Lib.hid (show ∀ j, 0 ≤ xs.getD j 0 ∧ xs.getD j 0 ≤ 30 by
        intro j
        by_cases hj : j < 3
        · exact vvOk_at k1 hj
        · rw [List.getD_eq_getElem?_getD, List.getElem?_eq_none (by rw [vvOk_len k1]; omega)]; simp)
      obtain ⟨gg1, hgg1, hgg2, hgg3⟩ := hgg
      obtain rfl : gg = gg1 := by simpa using hgg1
      clear hgg1
      go_loopw [7] (fun i wr => ∃ (k p' : Nat) (ys' : List Int), k ≤ n1 ∧ i = .int .i64 k ∧ p' ≤ p3 + 10 + k ∧ w5.heap.size ≤ wr.heap.size ∧ Hid (Below w.heap.size w wr) ∧ Hid (Ints wr w1.heap.size w2.heap.size (some ⟨b, off, none⟩) n1 xs) ∧ Hid (Rd wr g p') ∧ Hid (OwnInts wr w4.heap.size w5.heap.size (some ⟨gg, 0, none⟩) n1 cap ys') ∧ Hid (∀ j, 0 ≤ ys'.getD j 0 ∧ ys'.getD j 0 ≤ 30)) (fun i _ => n1 - (intOf i).toNat)
      case atStart => exact ⟨0, _, xs, Nat.zero_le _, rfl, (by omega : p3 + 1 ≤ p3 + 10 + 0), Nat.le_refl _, B4.out.trans (B5.out.mono (by omega)), I4.out.below B5.out (by omega), R4.out.below B5.out, O5.out, hX.out⟩
      case round =>
        obtain ⟨k, p', ys', hk, rfl, hp', hsz, HB, HI, HR, HO, HX⟩ := hrel
        by_cases hlt : k < n1
        · have hc := own_cell HO.out hlt
          have hf := own_free HO.out k
          have hx := HX.out k
          obtain ⟨x, hxe⟩ : ∃ x, x = ys'.getD k 0 := ⟨_, rfl⟩
          rw [← hxe] at hc hx
          obtain ⟨x0, x1⟩ := hx
          have HXE := Lib.hid hxe
          clear hxe
          have i0' : (0 : Int) ≤ (k : Int) := Int.natCast_nonneg _
          have i1' : (k : Int) < (n1 : Int) := by omega
          go_wp2
          go_region_with (go_at_call 35; refine (pick_any g p' 3 wr.drew (HR.out.keep fun _ _ => rfl) (by omega) (by omega) (by omega)).mono ?_; rintro e w6 ⟨v, rfl, hv, hG6, hR6⟩; have hc6 : w6.cell? ⟨gg, k, none⟩ = some (.int .i64 x) := (World.cell?_of_block (w := wr) (w' := w6) (a := ⟨gg, k, none⟩) (hG6.block gg (show gg < wr.heap.size by omega) (by omega))).trans hc; have hf6 : w6.frozen? ⟨gg, k, none⟩ = false := (World.frozen?_of_block (w := wr) (w' := w6) (a := ⟨gg, k, none⟩) (hG6.block gg (show gg < wr.heap.size by omega) (by omega))).trans hf; have G6 := Lib.hid hG6; have R6 := Lib.hid hR6; clear hG6 hR6)
          all_goals
            go_wp2
            go_roundw
            case rel =>
              have hO6 := HO.out.keep (G6.out.keep (lo := w4.heap.size) (hi := w5.heap.size) (.inl (by omega)) hsz)
              have hg6 : Below w.heap.size w w6 := HB.out.drew.trans (G6.out.below hg (by show w.heap.size ≤ wr.heap.size; omega))
              have hs6 : wr.heap.size ≤ w6.heap.size := G6.out.size
              have kk : Keep w1.heap.size w2.heap.size wr w6 := G6.out.keep (.inl hgl) (by show w2.heap.size ≤ wr.heap.size; omega)
              refine ⟨k + 1, p' + 1, ys'.set k _, by omega, by go_num, by omega, by simp [World.setCell]; omega, hg6.setCell (p := ⟨gg, k, none⟩) (by show w.heap.size ≤ gg; omega) _, (HI.out.keep kk).keep ?_, R6.out.keep fun i hi => Below.heap_setCell _ _ _ _ (by show i ≠ gg; omega), own_set hO6 k _, set_bound HX.out (by split <;> omega) (by split <;> omega)⟩
              exact fun i h1 h2 => Below.heap_setCell _ _ _ _ (by show i ≠ gg; omega)
            case measure => simp [intOf]; omega
        · go_wp2
          go_ret2
          exact ⟨_, n1, c1, xs, _, n1, cap, ys', rfl, hn1, hn1, HB.out, HI.out.wide (by omega) (by omega), HO.out.ints.wide (by omega) (by omega)⟩
    · have k1' : vvOk xs = false := by simpa using k1
      clear k1
      go_wp2_with fail
      refine (sVvOk_any A1 n1 c1 xs _ _ _ I4.out (by unfold maxLen; omega)).mono ?_
      rintro e w' ⟨rfl, rfl⟩
      go_wp2
      go_ret2
      exact ⟨A1, n1, c1, xs, A2, n2, c2, ys, rfl, hn1, hn2, B4.out, I4.out.wide (by omega) (by omega), J4.out.wide (by omega) (by omega)⟩
  · go_wp2
    go_ret2
    exact ⟨A1, n1, c1, xs, A2, n2, c2, ys, rfl, hn1, hn2, B4.out, I4.out.wide (by omega) (by omega), J4.out.wide (by omega) (by omega)⟩

theorem DrawVvJoin_any (A : Option Addr) (n c : Nat) (zs : List Int) (w : World) (h : Came w A n c zs) :
    Calls Try.prog 30 #[.slice A n c] w fun e w' => ∃ (A1 : Option Addr) (n1 c1 : Nat) (xs : List Int) (A2 : Option Addr) (n2 c2 : Nat) (ys : List Int), e = .returned (.tuple #[.slice A1 n1 c1, .slice A2 n2 c2]) ∧ n1 ≤ 3 ∧ n2 ≤ 3 ∧ Below w.heap.size w w' ∧ Ints w' w.heap.size w'.heap.size A1 n1 xs ∧ Ints w' w.heap.size w'.heap.size A2 n2 ys := by
  have H := Lib.hid h
  clear h
  go_enter Try.func30, Try.ntmps30
  go_wp2_with fail
  refine (DrawVvIn_any A n c zs _ H.out).mono ?_
  rintro e w1 ⟨A1, n1, c1, xs, A2, n2, c2, ys, rfl, hn1, hn2, hb, hI, hJ⟩
  have B1 := Lib.hid hb
  have I1 := Lib.hid hI
  have J1 := Lib.hid hJ
  clear hb hI hJ
  go_wp2
  go_ret2
  exact ⟨A1, n1, c1, xs, A2, n2, c2, ys, rfl, hn1, hn2, B1.out, I1.out, J1.out⟩

end Go.Proofs.Ytcpblncbljeccaa
